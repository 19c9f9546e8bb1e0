/-
  How the program opens a register, by the abstract machine.
-/
import Derived.Test.YtdpmioiamcgfkaaDoorJRcGToDa
import Derived.Test.YtdpmioiamcgfkaaDoorJDbToEh
import Derived.Test.YtdpmioiamcgfkaaDoorJAmPToOpen
import Derived.Test.YtdpmioiamcgfkaaDoorJAmIToAmO
import Derived.Test.YtdpmioiamcgfkaaDoorProg
import Derived.Test.YtdpmioiamcgfkaaDoorJRowToRow
set_option linter.unusedSimpArgs false
set_option linter.unusedVariables false
namespace Go.Proofs.YtdpmioiamcgfkaaDoor
open Go.RowKit

/-- The program's list of checks. -/
def GC (G : Nat → Option (List AV)) : Prop := G 0 = some [.func (.func 157) [] [], .func (.func 158) [] [], .func (.func 159) [] [], .func (.func 160) [] []]
def ckN (x : Iss) : Nat → Bool
  | 0 => ck1 x
  | 1 => ck2 x
  | 2 => ck3 x
  | _ => ck4 x
theorem issB_ckN {x : Iss} (h : ∀ j, j < 4 → ckN x j = true) : issB x = true := by
  rw [issB_ck, show ck1 x = true from h 0 (by omega), show ck2 x = true from h 1 (by omega), show ck3 x = true from h 2 (by omega), show ck4 x = true from h 3 (by omega)]; rfl
theorem issB_ckF {x : Iss} {j : Nat} (hj : j < 4) (h : ckN x j = false) : issB x = false := by
  rw [issB_ck]
  have : j = 0 ∨ j = 1 ∨ j = 2 ∨ j = 3 := by omega
  rcases this with rfl | rfl | rfl | rfl <;> simp only [ckN] at h <;> simp [h]

/-- The error that opening returns. -/
def openV (r : List Iss) : Int := if listedB r = true then
    if 0 < (dRun r (nums r).length).2.length then 21 else if (∃ p ∈ (dRun r (nums r).length).1, 6 < p.2) then 20 else 0
  else 20
def openA (r : List Iss) : AV := .tup [if openV r = 0 then bkA r (nums r) else .nilp, .int .i64 (openV r)]
theorem openA_no {r : List Iss} (h : listedB r = false) : openA r = .tup [.nilp, .int .i64 20] := by simp [openA, openV, h]

/-- The state of the first loop. -/
def opS (r : List Iss) : Nat → St
  | 0 => ⟨[(28, .int .i64 0), (27, .int .i64 r.length), (26, .vsl (r.map isa)), (1, .ptr 1 0), (4, .ptr 4 0)], [(1, .box [.vsl (r.map isa)]), (4, .box [.ptr 18 0]), (18, .box [.vsl (r.map isa), .nils])]⟩
  | i + 1 => ⟨[(28, .int .i64 (i + 1 : Nat)), (27, .int .i64 r.length), (26, .vsl (r.map isa)), (1, .ptr 1 0), (4, .ptr 4 0)], [(1, .box [.vsl (r.map isa)]), (4, .box [.ptr 18 0]), (18, .box [.vsl (r.map isa), .osl 85 (numsN r (i + 1)).length]), (85, .row 1 ((numsN r (i + 1)).map ia))]⟩

def opT (r : List Iss) (k : Nat) : St := ⟨[(98, .int .i64 k), (97, .int .i64 r.length), (96, .vsl (r.map isa)), (4, .vptr [bkA r (nums r)] 0)], []⟩
def opJ (r : List Iss) (i : Nat) (x : Iss) (j : Nat) : St := ⟨[(34, .int .i64 j), (33, .agg [.func (.func 157) [] [], .func (.func 158) [] [], .func (.func 159) [] [], .func (.func 160) [] []]), (5, .int .i64 i), (6, .ptr 6 0)] ++ (opS r i).t, (opS r i).o ++ [(6, .box (isa x))]⟩
theorem ckN_go {x : Iss} {j : Nat} (hc : ∀ k, k < j → ckN x k = true) (h : ckN x j = true) : ∀ k, k < j + 1 → ckN x k = true := fun k hk => by
  by_cases e : k = j
  · rw [e]; exact h
  · exact hc k (by omega)

section
variable {G : Nat → Option (List AV)}

set_option maxRecDepth 4000 in
theorem open_pc (hG : GC G) (r : List Iss) (h : Wf r) : PC Tryd.prog G 67 [rega r] (openA r) := by
  (refine pc_sheet_open (Nat.le_of_ble_eq_true rfl) fun R hG hrd => GO_AR mixed 1000 ?_; subst hG)
  unfold GC at hG
  have hs := h.1.1
  unfold Sml at hs
  simp -implicitDefEqProofs [rc_sheet_open, rr_sheet_open, rega]
  refine CallK.flat (inS_pc 1 60 r.length) (by simp [AV.flat]) (by simp) ?_
  cases q1 : inR r.length 1 60
  · simp -implicitDefEqProofs [openA_no (r := r) (by simp [listedB, q1])]
  have q1' : 1 ≤ r.length ∧ r.length ≤ 60 := by
    have := of_decide_eq_true q1
    omega
  simp -implicitDefEqProofs []
  refine AR_for (opS r) (fun i => ∀ j (h : j < r.length), j < i → issB r[j] = true ∧ ordB r j = true) r.length (by simp only [opS]; (first | exact Weak.tm (by simp [lk]) | exact Weak.sub (by simp [lk, keptA, AV.keys]) (by simp [lk, keptO, keptA, AV.keys]))) (by simp) ?_ ?_
  · intro i hi he
    refine GO_AR mixed 1000 ?_
    have w1 : IntKind.i64.wrap ((i : Int) + 1) = ((i + 1 : Nat) : Int) := wrapI (by omega) (by omega)
    have a1 := at_eq hi
    have hx := h.1.2 r[i] (List.getElem_mem hi)
    have hk := h.2 r[i] (List.getElem_mem hi)
    have a1 := at_eq hi
    cases i with
    | zero =>
      simp -implicitDefEqProofs [opS, hi, isa, hG]
      refine AR_for (opJ r (0) r[0]) (fun j => ∀ k, k < j → ckN r[0] k = true) 4 (by simp only [opJ, opS]; (first | exact Weak.tm (by simp [lk, isa, ia]) | exact Weak.sub (by simp [lk, keptA, AV.keys, isa, ia]) (by simp [lk, keptO, keptA, AV.keys, isa, ia]))) (by simp) ?_ ?_
      · intro j hj hc
        refine GO_AR mixed 1000 ?_
        rcases (show j = 0 ∨ j = 1 ∨ j = 2 ∨ j = 3 by omega) with rfl | rfl | rfl | rfl
        · have v0 : IntKind.i64.wrap 1 = 1 := rfl
          simp -implicitDefEqProofs [opJ, opS, isa]
          (first | refine CallK.of (ck1_pc r[0]) (by simp) ?_ | refine CallD.of (ck1_pc r[0]) (by simp) ?_)
          cases q : ck1 r[0]
          · simp -implicitDefEqProofs []
            refine GO_ret mixed 1000 ?_
            simp -implicitDefEqProofs []
            refine GO_ret mixed 1000 ?_
            simp -implicitDefEqProofs [openA_no (listed_no1 hi (issB_ckF (j := 0) (by omega) q))]
          · simp -implicitDefEqProofs [v0]
            first | exact ⟨(by (first | exact Weak.tm (by simp [lk, opJ, opS, isa, ia]) | exact Weak.sub (by simp [lk, keptA, AV.keys, opJ, opS, isa, ia]) (by simp [lk, keptO, keptA, AV.keys, opJ, opS, isa, ia]))), ckN_go hc q⟩ | exact ⟨(by (first | exact Weak.tm (by simp [lk, opJ, opS, isa, ia]) | exact Weak.sub (by simp [lk, keptA, AV.keys, opJ, opS, isa, ia]) (by simp [lk, keptO, keptA, AV.keys, opJ, opS, isa, ia]))), q⟩
        · have v1 : IntKind.i64.wrap 2 = 2 := rfl
          simp -implicitDefEqProofs [opJ, opS, isa]
          (first | refine CallK.of (ck2_pc r[0] hk) (by simp) ?_ | refine CallD.of (ck2_pc r[0] hk) (by simp) ?_)
          cases q : ck2 r[0]
          · simp -implicitDefEqProofs []
            refine GO_ret mixed 1000 ?_
            simp -implicitDefEqProofs []
            refine GO_ret mixed 1000 ?_
            simp -implicitDefEqProofs [openA_no (listed_no1 hi (issB_ckF (j := 1) (by omega) q))]
          · simp -implicitDefEqProofs [v1]
            first | exact ⟨(by (first | exact Weak.tm (by simp [lk, opJ, opS, isa, ia]) | exact Weak.sub (by simp [lk, keptA, AV.keys, opJ, opS, isa, ia]) (by simp [lk, keptO, keptA, AV.keys, opJ, opS, isa, ia]))), ckN_go hc q⟩ | exact ⟨(by (first | exact Weak.tm (by simp [lk, opJ, opS, isa, ia]) | exact Weak.sub (by simp [lk, keptA, AV.keys, opJ, opS, isa, ia]) (by simp [lk, keptO, keptA, AV.keys, opJ, opS, isa, ia]))), q⟩
        · have v2 : IntKind.i64.wrap 3 = 3 := rfl
          simp -implicitDefEqProofs [opJ, opS, isa]
          (first | refine CallK.of (ck3_pc r[0] hx.1) (by simp) ?_ | refine CallD.of (ck3_pc r[0] hx.1) (by simp) ?_)
          cases q : ck3 r[0]
          · simp -implicitDefEqProofs []
            refine GO_ret mixed 1000 ?_
            simp -implicitDefEqProofs []
            refine GO_ret mixed 1000 ?_
            simp -implicitDefEqProofs [openA_no (listed_no1 hi (issB_ckF (j := 2) (by omega) q))]
          · simp -implicitDefEqProofs [v2]
            first | exact ⟨(by (first | exact Weak.tm (by simp [lk, opJ, opS, isa, ia]) | exact Weak.sub (by simp [lk, keptA, AV.keys, opJ, opS, isa, ia]) (by simp [lk, keptO, keptA, AV.keys, opJ, opS, isa, ia]))), ckN_go hc q⟩ | exact ⟨(by (first | exact Weak.tm (by simp [lk, opJ, opS, isa, ia]) | exact Weak.sub (by simp [lk, keptA, AV.keys, opJ, opS, isa, ia]) (by simp [lk, keptO, keptA, AV.keys, opJ, opS, isa, ia]))), q⟩
        · have v3 : IntKind.i64.wrap 4 = 4 := rfl
          simp -implicitDefEqProofs [opJ, opS, isa]
          (first | refine CallK.of (ck4_pc r[0] hx.2) (by simp) ?_ | refine CallD.of (ck4_pc r[0] hx.2) (by simp) ?_)
          cases q : ck4 r[0]
          · simp -implicitDefEqProofs []
            refine GO_ret mixed 1000 ?_
            simp -implicitDefEqProofs []
            refine GO_ret mixed 1000 ?_
            simp -implicitDefEqProofs [openA_no (listed_no1 hi (issB_ckF (j := 3) (by omega) q))]
          · simp -implicitDefEqProofs [v3]
            first | exact ⟨(by (first | exact Weak.tm (by simp [lk, opJ, opS, isa, ia]) | exact Weak.sub (by simp [lk, keptA, AV.keys, opJ, opS, isa, ia]) (by simp [lk, keptO, keptA, AV.keys, opJ, opS, isa, ia]))), ckN_go hc q⟩ | exact ⟨(by (first | exact Weak.tm (by simp [lk, opJ, opS, isa, ia]) | exact Weak.sub (by simp [lk, keptA, AV.keys, opJ, opS, isa, ia]) (by simp [lk, keptO, keptA, AV.keys, opJ, opS, isa, ia]))), q⟩
      · intro hc
        refine GO_AR mixed 1000 ?_
        have p1 : issB r[0] = true := issB_ckN hc
        simp -implicitDefEqProofs [opJ, opS, isa]
        refine GO_ret mixed 1000 ?_
        by_cases p3 : r[0].l = 1
        · have hn : numsN r 1 = [r[0].d] := by simp [numsN, newB, a1]
          have ok : ordB r 0 = true := by simp [ordB, a1, p3]
          have w0 : IntKind.i64.wrap 1 = 1 := rfl
          simp -implicitDefEqProofs [p3, w0]
          exact ⟨rfl, (by (first | exact Weak.tm (by simp [lk, opS, hn, ia]) | exact Weak.sub (by simp [lk, keptA, AV.keys, opS, hn, ia]) (by simp [lk, keptO, keptA, AV.keys, opS, hn, ia]))), fun j q1 q2 => by subst q2; exact ⟨p1, ok⟩⟩
        · simp -implicitDefEqProofs [p3]
          refine GO_ret mixed 1000 ?_
          simp -implicitDefEqProofs [openA_no (listed_no2 hi (by simp [ordB, a1, p3]))]
    | succ i =>
      have k1 : (i : Int) + 1 < r.length := by omega
      have k2 : ((i : Int) + 1).toNat = i + 1 := by omega
      have k3 : (0 : Int) ≤ (i : Int) + 1 := by omega
      simp -implicitDefEqProofs [opS, hi, isa, hG, k1, k2, k3]
      refine AR_for (opJ r (i + 1) r[i + 1]) (fun j => ∀ k, k < j → ckN r[i + 1] k = true) 4 (by simp only [opJ, opS]; (first | exact Weak.tm (by simp [lk, isa, ia]) | exact Weak.sub (by simp [lk, keptA, AV.keys, isa, ia]) (by simp [lk, keptO, keptA, AV.keys, isa, ia]))) (by simp) ?_ ?_
      · intro j hj hc
        refine GO_AR mixed 1000 ?_
        rcases (show j = 0 ∨ j = 1 ∨ j = 2 ∨ j = 3 by omega) with rfl | rfl | rfl | rfl
        · have v0 : IntKind.i64.wrap 1 = 1 := rfl
          simp -implicitDefEqProofs [opJ, opS, isa]
          (first | refine CallK.of (ck1_pc r[i + 1]) (by simp) ?_ | refine CallD.of (ck1_pc r[i + 1]) (by simp) ?_)
          cases q : ck1 r[i + 1]
          · simp -implicitDefEqProofs []
            refine GO_ret mixed 1000 ?_
            simp -implicitDefEqProofs []
            refine GO_ret mixed 1000 ?_
            simp -implicitDefEqProofs [openA_no (listed_no1 hi (issB_ckF (j := 0) (by omega) q))]
          · simp -implicitDefEqProofs [v0]
            first | exact ⟨(by (first | exact Weak.tm (by simp [lk, opJ, opS, isa, ia]) | exact Weak.sub (by simp [lk, keptA, AV.keys, opJ, opS, isa, ia]) (by simp [lk, keptO, keptA, AV.keys, opJ, opS, isa, ia]))), ckN_go hc q⟩ | exact ⟨(by (first | exact Weak.tm (by simp [lk, opJ, opS, isa, ia]) | exact Weak.sub (by simp [lk, keptA, AV.keys, opJ, opS, isa, ia]) (by simp [lk, keptO, keptA, AV.keys, opJ, opS, isa, ia]))), q⟩
        · have v1 : IntKind.i64.wrap 2 = 2 := rfl
          simp -implicitDefEqProofs [opJ, opS, isa]
          (first | refine CallK.of (ck2_pc r[i + 1] hk) (by simp) ?_ | refine CallD.of (ck2_pc r[i + 1] hk) (by simp) ?_)
          cases q : ck2 r[i + 1]
          · simp -implicitDefEqProofs []
            refine GO_ret mixed 1000 ?_
            simp -implicitDefEqProofs []
            refine GO_ret mixed 1000 ?_
            simp -implicitDefEqProofs [openA_no (listed_no1 hi (issB_ckF (j := 1) (by omega) q))]
          · simp -implicitDefEqProofs [v1]
            first | exact ⟨(by (first | exact Weak.tm (by simp [lk, opJ, opS, isa, ia]) | exact Weak.sub (by simp [lk, keptA, AV.keys, opJ, opS, isa, ia]) (by simp [lk, keptO, keptA, AV.keys, opJ, opS, isa, ia]))), ckN_go hc q⟩ | exact ⟨(by (first | exact Weak.tm (by simp [lk, opJ, opS, isa, ia]) | exact Weak.sub (by simp [lk, keptA, AV.keys, opJ, opS, isa, ia]) (by simp [lk, keptO, keptA, AV.keys, opJ, opS, isa, ia]))), q⟩
        · have v2 : IntKind.i64.wrap 3 = 3 := rfl
          simp -implicitDefEqProofs [opJ, opS, isa]
          (first | refine CallK.of (ck3_pc r[i + 1] hx.1) (by simp) ?_ | refine CallD.of (ck3_pc r[i + 1] hx.1) (by simp) ?_)
          cases q : ck3 r[i + 1]
          · simp -implicitDefEqProofs []
            refine GO_ret mixed 1000 ?_
            simp -implicitDefEqProofs []
            refine GO_ret mixed 1000 ?_
            simp -implicitDefEqProofs [openA_no (listed_no1 hi (issB_ckF (j := 2) (by omega) q))]
          · simp -implicitDefEqProofs [v2]
            first | exact ⟨(by (first | exact Weak.tm (by simp [lk, opJ, opS, isa, ia]) | exact Weak.sub (by simp [lk, keptA, AV.keys, opJ, opS, isa, ia]) (by simp [lk, keptO, keptA, AV.keys, opJ, opS, isa, ia]))), ckN_go hc q⟩ | exact ⟨(by (first | exact Weak.tm (by simp [lk, opJ, opS, isa, ia]) | exact Weak.sub (by simp [lk, keptA, AV.keys, opJ, opS, isa, ia]) (by simp [lk, keptO, keptA, AV.keys, opJ, opS, isa, ia]))), q⟩
        · have v3 : IntKind.i64.wrap 4 = 4 := rfl
          simp -implicitDefEqProofs [opJ, opS, isa]
          (first | refine CallK.of (ck4_pc r[i + 1] hx.2) (by simp) ?_ | refine CallD.of (ck4_pc r[i + 1] hx.2) (by simp) ?_)
          cases q : ck4 r[i + 1]
          · simp -implicitDefEqProofs []
            refine GO_ret mixed 1000 ?_
            simp -implicitDefEqProofs []
            refine GO_ret mixed 1000 ?_
            simp -implicitDefEqProofs [openA_no (listed_no1 hi (issB_ckF (j := 3) (by omega) q))]
          · simp -implicitDefEqProofs [v3]
            first | exact ⟨(by (first | exact Weak.tm (by simp [lk, opJ, opS, isa, ia]) | exact Weak.sub (by simp [lk, keptA, AV.keys, opJ, opS, isa, ia]) (by simp [lk, keptO, keptA, AV.keys, opJ, opS, isa, ia]))), ckN_go hc q⟩ | exact ⟨(by (first | exact Weak.tm (by simp [lk, opJ, opS, isa, ia]) | exact Weak.sub (by simp [lk, keptA, AV.keys, opJ, opS, isa, ia]) (by simp [lk, keptO, keptA, AV.keys, opJ, opS, isa, ia]))), q⟩
      · intro hc
        refine GO_AR mixed 1000 ?_
        have p1 : issB r[i + 1] = true := issB_ckN hc
        simp -implicitDefEqProofs [opJ, opS, isa]
        refine GO_ret mixed 1000 ?_
        have w2 : IntKind.i64.wrap (i : Int) = (i : Int) := wrapI (by omega) (by omega)
        have w3 : IntKind.i64.wrap ((i : Int) + 1 + 1) = (i : Int) + 1 + 1 := wrapI (by omega) (by omega)
        have k3 : (0 : Int) < (i : Int) + 1 := by omega
        have hi2 : i < r.length := by omega
        have a2 := at_eq hi2
        have bl := (he i hi2 (by omega)).1
        simp only [issB, headB, Bool.and_eq_true, inR, decide_eq_true_eq] at bl
        have w4 : IntKind.i64.wrap (r[i].l + 1) = r[i].l + 1 := wrapI (by omega) (by omega)
        have b1 := numsN_len r (i + 1)
        have b2 : ((numsN r (i + 1)).length + 1) * 8 ≤ 70368744177664 := by omega
        have go : ordB r (i + 1) = true → ∀ j (h : j < r.length), j < i + 1 + 1 → issB r[j] = true ∧ ordB r j = true := fun g2 j q1 q2 => by
          by_cases e : j = i + 1
          · subst e; exact ⟨p1, g2⟩
          · exact he j q1 (by omega)
        by_cases p3 : r[i].d = r[i + 1].d
        · have hn : numsN r (i + 1 + 1) = numsN r (i + 1) := by rw [numsN]; simp [newB, a1, a2, p3]
          by_cases p5 : r[i + 1].l = r[i].l + 1
          case neg =>
            have p5' : ¬ r[i].l + 1 = r[i + 1].l := fun e => p5 e.symm
            simp -implicitDefEqProofs [k3, w2, w4, hi2, isa, p3, p5']
            refine GO_ret mixed 1000 ?_
            simp -implicitDefEqProofs [openA_no (listed_no2 hi (by simp [ordB, a1, a2, p3, p5]))]
          by_cases p6 : r[i].k = r[i + 1].k
          · have ok : ordB r (i + 1) = true := by simp [ordB, a1, a2, p3, p5, p6]
            simp -implicitDefEqProofs [k3, w2, w3, w4, hi2, isa, p3, p5, p6]
            exact ⟨(by (first | exact Weak.tm (by simp [lk, opS, hn, ia]) | exact Weak.sub (by simp [lk, keptA, AV.keys, opS, hn, ia]) (by simp [lk, keptO, keptA, AV.keys, opS, hn, ia]))), go ok⟩
          · have p6' : ¬ r[i + 1].k = r[i].k := fun e => p6 e.symm
            simp -implicitDefEqProofs [k3, w2, w4, hi2, isa, p3, p5, p6]
            refine GO_ret mixed 1000 ?_
            simp -implicitDefEqProofs [openA_no (listed_no2 hi (by simp [ordB, a1, a2, p3, p5, p6']))]
        by_cases p4 : r[i + 1].d < r[i].d
        · simp -implicitDefEqProofs [k3, w2, hi2, isa, p3, p4]
          refine GO_ret mixed 1000 ?_
          simp -implicitDefEqProofs [openA_no (listed_no2 hi (by simp [ordB, a1, a2, p4]))]
        have p7 : r[i].d < r[i + 1].d := by omega
        have hn : numsN r (i + 1 + 1) = numsN r (i + 1) ++ [r[i + 1].d] := by rw [numsN]; simp [newB, a1, a2, p3]
        by_cases p5 : r[i + 1].l = 1
        · have ok : ordB r (i + 1) = true := by simp [ordB, a1, a2, p4, p7, p5]
          simp -implicitDefEqProofs [k3, w2, w3, hi2, isa, p3, p4, p5, b2]
          exact ⟨rfl, (by (first | exact Weak.tm (by simp [lk, opS, hn, ia]) | exact Weak.sub (by simp [lk, keptA, AV.keys, opS, hn, ia]) (by simp [lk, keptO, keptA, AV.keys, opS, hn, ia]))), go ok⟩
        · simp -implicitDefEqProofs [k3, w2, hi2, isa, p3, p4, p5]
          refine GO_ret mixed 1000 ?_
          simp -implicitDefEqProofs [openA_no (listed_no2 hi (by simp [ordB, a1, a2, p4, p7, p5]))]
  · intro he
    refine GO_AR mixed 1000 ?_
    obtain ⟨n, hn⟩ : ∃ n, r.length = n + 1 := ⟨r.length - 1, by omega⟩
    have e : numsN r (n + 1) = nums r := by rw [nums, hn]
    have g1 : r.all issB = true := List.all_eq_true.2 fun x hx => by
      obtain ⟨j, hj, rfl⟩ := List.getElem_of_mem hx
      exact (he j hj hj).1
    have g2 : (List.range r.length).all (ordB r) = true := range_all.2 fun j hj => (he j hj hj).2
    have hO : Ord r := fun i hi => by
      have := (he (i + 1) hi (by omega)).2
      simp only [ordB] at this
      split at this
      · cases this
      · omega
    have hns : Sml (nums r) := by have := nums_len r; unfold Sml; omega
    have hsn : (nums r).Pairwise (· ≤ ·) := (nums_lt hO).imp fun h => Int.le_of_lt h
    have k1 : ¬ (n : Int) + 1 < r.length := by omega
    rw [hn]
    simp -implicitDefEqProofs [opS, k1, e]
    refine GO_ret mixed 1000 ?_
    simp -implicitDefEqProofs []
    by_cases c20 : 20 < (nums r).length
    · have c20' : (20 : Int) < (nums r).length := by omega
      simp -implicitDefEqProofs [c20', openA_no (r := r) (by simp [listedB]; omega)]
    have c20' : ¬ (20 : Int) < (nums r).length := by omega
    have pu : ((nums r).map ia).all (fun x => x.all AV.pure) = true := by simp [ia, AV.pure]
    have pw : (r.map isa).all (fun x => x.all AV.pure) = true := by simp [isa, AV.pure]
    simp -implicitDefEqProofs [c20']
    refine AR_for (opT r) (fun i => ∀ j (h : j < r.length), j < i → ItsIn r r[j]) r.length (Weak.trans (Weak.frz newK _ (fun k hk => by simp [newK]; omega)) ?_) (by simp) ?_ ?_
    · simp only [opT, bkA, frzSt]
      refine Weak.sub (by simp [lk, keptA, AV.keys, frzSt, newK, frzA, frz, snapF, snapL, St.get, pu, pw]) (by simp) (by simp [newK])
    · intro i hi hc
      refine GO_AR mixed 1000 ?_
      have w1 : IntKind.i64.wrap ((i : Int) + 1) = ((i + 1 : Nat) : Int) := wrapI (by omega) (by omega)
      have hx := h.1.2 r[i] (List.getElem_mem hi)
      simp -implicitDefEqProofs [opT, hi, isa]
      (first | refine CallK.of (containsT_pc 103 [.vptr [bkA r (nums r)] 0] (fun y => !decide (y.1 ∈ nums r)) r[i].its (by simp [AV.pure]) hx.1 (fun y _ => openC_pc r (nums r) y hsn hns)) (by simp) ?_ | refine CallD.of (containsT_pc 103 [.vptr [bkA r (nums r)] 0] (fun y => !decide (y.1 ∈ nums r)) r[i].its (by simp [AV.pure]) hx.1 (fun y _ => openC_pc r (nums r) y hsn hns)) (by simp) ?_)
      cases q : r[i].its.any fun y => !decide (y.1 ∈ nums r)
      · simp -implicitDefEqProofs [w1]
        refine ⟨(by (first | exact Weak.tm (by simp [lk, opT]) | exact Weak.sub (by simp [lk, keptA, AV.keys, opT]) (by simp [lk, keptO, keptA, AV.keys, opT]))), fun j q1 q2 => ?_⟩
        by_cases e2 : j = i
        · subst e2
          intro y hy
          have := List.any_eq_false.1 q y hy
          simpa using this
        · exact hc j q1 (by omega)
      · simp -implicitDefEqProofs []
        refine GO_ret mixed 1000 ?_
        obtain ⟨y, hy, hy2⟩ := List.any_eq_true.1 q
        obtain ⟨k, hk, rfl⟩ := List.getElem_of_mem hy
        simp -implicitDefEqProofs [openA_no (listed_no3 hi hk (by simpa using hy2))]
    · intro hc
      refine GO_AR mixed 1000 ?_
      have g3 : inB r = true := List.all_eq_true.2 fun x hx => by
        obtain ⟨j, hj, rfl⟩ := List.getElem_of_mem hx
        exact List.all_eq_true.2 fun y hy => decide_eq_true (hc j hj hj y hy)
      have hL : listedB r = true := by
        simp only [listedB, q1, g1, g2, g3, Bool.true_and, Bool.and_true, decide_eq_true_eq]; omega
      simp -implicitDefEqProofs [opT]
      refine GO_ret mixed 1000 ?_
      simp -implicitDefEqProofs []
      (first | refine CallK.of (depths_pc r h hO (by omega)) (by simp) ?_ | refine CallD.of (depths_pc r h hO (by omega)) (by simp) ?_)
      simp -implicitDefEqProofs []
      by_cases c21 : 0 < (dRun r (nums r).length).2.length
      · have v : openA r = .tup [.nilp, .int .i64 21] := by simp [openA, openV, hL, c21]
        simp -implicitDefEqProofs [c21, v]
      simp -implicitDefEqProofs [c21]
      refine AR_opn (kvs := (dRun r (nums r).length).1) rfl (by simp [opnT, St.tmp, lk]) ?_ ?_
      · intro h6
        refine GO_ret mixed 1000 ?_
        have n6 : ¬ ∃ p ∈ (dRun r (nums r).length).1, 6 < p.2 := fun ⟨p, hp, hp6⟩ => by have := h6 p hp; omega
        have v : openA r = .tup [bkA r (nums r), .int .i64 0] := by
          unfold openA openV
          rw [if_pos hL, if_neg c21, if_neg n6]; simp
        simp -implicitDefEqProofs [v, bkA]
      · intro h6
        refine GO_AR mixed 1000 ?_
        have v : openA r = .tup [.nilp, .int .i64 20] := by
          unfold openA openV
          rw [if_pos hL, if_neg c21, if_pos h6]; simp
        simp -implicitDefEqProofs [opnRet, v]
        refine GO_ret mixed 1000 ?_
        simp -implicitDefEqProofs []
end
end Go.Proofs.YtdpmioiamcgfkaaDoor

/-! What the program's exported functions on registers compute: Check, Drawings, Last, At, Depth. -/
namespace Go.Proofs.YtdpmioiamcgfkaaDoor
open Go.RowKit

theorem open_listed {r : List Iss} (h : openV r = 0) : listedB r = true := by
  unfold openV at h
  split at h
  · assumption
  · cases h
theorem listed_20 {r : List Iss} (h : listedB r = true) : (nums r).length ≤ 20 := by
  simp only [listedB, Bool.and_eq_true, decide_eq_true_eq] at h; exact h.2
theorem listed_60 {r : List Iss} (h : listedB r = true) : 1 ≤ r.length ∧ r.length ≤ 60 := by
  simp only [listedB, Bool.and_eq_true, decide_eq_true_eq, inR] at h; have := h.1.1.1.1; omega
theorem listed_iss {r : List Iss} (h : listedB r = true) {x : Iss} (hx : x ∈ r) : issB x = true := by
  simp only [listedB, Bool.and_eq_true] at h; exact List.all_eq_true.1 h.1.1.1.2 x hx
theorem listed_ord {r : List Iss} (h : listedB r = true) {i : Nat} (hi : i < r.length) : ordB r i = true := by
  simp only [listedB, Bool.and_eq_true] at h; exact range_all.1 h.1.1.2 i hi
theorem listed_in {r : List Iss} (h : listedB r = true) {x : Iss} (hx : x ∈ r) : ItsIn r x := fun y hy => by
  simp only [listedB, Bool.and_eq_true, inB] at h
  exact of_decide_eq_true (List.all_eq_true.1 (List.all_eq_true.1 h.1.2 x hx) y hy)
theorem nums_sml {r : List Iss} (h : Sml r) : Sml (nums r) := by have := nums_len r; unfold Sml at *; omega
theorem nums_le {r : List Iss} (h : Ord r) : (nums r).Pairwise (· ≤ ·) := (nums_lt h).imp fun h => Int.le_of_lt h
theorem ord_map {r : List Iss} (hO : Ord r) : (r.map (·.d)).Pairwise (· ≤ ·) := by
  rw [List.pairwise_map, List.pairwise_iff_getElem]
  intro i j hi hj hij
  have := hO.mono (Nat.le_of_lt hij) hj
  rwa [at_eq hi, at_eq hj] at this

/-- One issue lies behind another. -/
def Lx (x y : Iss) : Prop := x.d < y.d ∨ (x.d = y.d ∧ x.l < y.l)
theorem lex_at {r : List Iss} (h : listedB r = true) : ∀ {i j : Nat}, i < j → j < r.length → Lx (at' r i) (at' r j) := by
  intro i j hij hj
  induction j with
  | zero => omega
  | succ j ih =>
    have step : Lx (at' r j) (at' r (j + 1)) := by
      have := listed_ord h hj
      simp only [ordB] at this
      split at this
      · cases this
      · split at this
        · rename_i h2; exact .inl h2
        · simp only [Bool.and_eq_true, decide_eq_true_eq] at this
          exact .inr ⟨by omega, by omega⟩
    by_cases e : i = j
    · subst e; exact step
    · have := ih (by omega) (by omega)
      unfold Lx at *
      omega
theorem find_own {r : List Iss} (h : listedB r = true) : ∀ y ∈ r, findN y.d y.l r = some y := fun y hy => by
  obtain ⟨i, hi, rfl⟩ := List.getElem_of_mem hy
  refine findN_at hi rfl rfl fun j hj hij => ?_
  have := lex_at h hij hi
  rw [at_eq hj, at_eq hi] at this
  unfold Lx at this
  omega

/-- The error that a register has, or that a drawing is not in it. -/
def knV (r : List Iss) (n : Int) : Int := if openV r = 0 then if n ∈ nums r then 0 else 6 else openV r

section
variable {G : Nat → Option (List AV)}

theorem known_pc (hG : GC G) (r : List Iss) (n : Int) (h : Wf r) : PC Tryd.prog G 68 [rega r, .int .i64 n] (.tup [if knV r n = 0 then bkA r (nums r) else .nilp, .int .i64 (knV r n)]) := by
  (refine pc_sheet_known (Nat.le_of_ble_eq_true rfl) fun R hG hrd => GO_AR mixed 1000 ?_; subst hG)
  simp -implicitDefEqProofs [rc_sheet_known, rr_sheet_known, rega]
  (first | refine CallK.of (open_pc hG r h) (by simp) ?_ | refine CallD.of (open_pc hG r h) (by simp) ?_)
  by_cases e : openV r = 0
  · have hL := open_listed e
    have hO := ord_of hL
    simp -implicitDefEqProofs [openA, e]
    (first | refine CallK.of (has_pc r (nums r) n (nums_le hO) (nums_sml h.1.1)) (by simp) ?_ | refine CallD.of (has_pc r (nums r) n (nums_le hO) (nums_sml h.1.1)) (by simp) ?_)
    by_cases e2 : n ∈ nums r
    · simp -implicitDefEqProofs [knV, e, e2, bkA]
    · simp -implicitDefEqProofs [knV, e, e2]
  · simp -implicitDefEqProofs [openA, e, knV]

theorem checkP_pc (hG : GC G) (r : List Iss) (h : Wf r) : PC Tryd.prog G 24 [rega r] (.int .i64 (openV r)) := by
  (refine pc_sheet_Check (Nat.le_of_ble_eq_true rfl) fun R hG hrd => GO_AR mixed 1000 ?_; subst hG)
  simp -implicitDefEqProofs [rc_sheet_Check, rr_sheet_Check, rega]
  (first | refine CallK.of (open_pc hG r h) (by simp) ?_ | refine CallD.of (open_pc hG r h) (by simp) ?_)
  simp -implicitDefEqProofs [openA]

theorem drawP_pc (hG : GC G) (r : List Iss) (h : Wf r) : PC Tryd.prog G 20 [rega r] (.tup [.vsl ((if openV r = 0 then nums r else []).map ia), .int .i64 (openV r)]) := by
  by_cases e : openV r = 0
  · (refine pc_sheet_Drawings (Nat.le_of_ble_eq_true rfl) fun R hG hrd => GO_AR mixed 1000 ?_; subst hG)
    simp -implicitDefEqProofs [rc_sheet_Drawings, rr_sheet_Drawings, rega]
    (first | refine CallK.of (open_pc hG r h) (by simp) ?_ | refine CallD.of (open_pc hG r h) (by simp) ?_)
    simp -implicitDefEqProofs [openA, e, bkA]
  · refine PC.nzR (v := .tup [.nils, .int .i64 (openV r)]) ?_ (by simp [nz, e])
    (refine pc_sheet_Drawings (Nat.le_of_ble_eq_true rfl) fun R hG hrd => GO_AR mixed 1000 ?_; subst hG)
    simp -implicitDefEqProofs [rc_sheet_Drawings, rr_sheet_Drawings, rega]
    (first | refine CallK.of (open_pc hG r h) (by simp) ?_ | refine CallD.of (open_pc hG r h) (by simp) ?_)
    simp -implicitDefEqProofs [openA, e]

theorem lastP_pc (hG : GC G) (r : List Iss) (n : Int) (h : Wf r) : PC Tryd.prog G 22 [rega r, .int .i64 n] (.tup [.int .i64 (if knV r n = 0 then cntV r n else 0), .int .i64 (knV r n)]) := by
  (refine pc_sheet_Last (Nat.le_of_ble_eq_true rfl) fun R hG hrd => GO_AR mixed 1000 ?_; subst hG)
  simp -implicitDefEqProofs [rc_sheet_Last, rr_sheet_Last, rega]
  (first | refine CallK.of (known_pc hG r n h) (by simp) ?_ | refine CallD.of (known_pc hG r n h) (by simp) ?_)
  by_cases e : knV r n = 0
  · have e1 : openV r = 0 := by
      unfold knV at e
      split at e
      · assumption
      · exact e
    have hO := ord_of (open_listed e1)
    simp -implicitDefEqProofs [e]
    (first | refine CallK.of (last_pc r (nums r) n (ord_map hO) h.1.1) (by simp) ?_ | refine CallD.of (last_pc r (nums r) n (ord_map hO) h.1.1) (by simp) ?_)
    simp -implicitDefEqProofs []
  · simp -implicitDefEqProofs [e]

theorem depthP_pc (hG : GC G) (r : List Iss) (n : Int) (h : Wf r) : PC Tryd.prog G 29 [rega r, .int .i64 n] (.tup [.int .i64 (if knV r n = 0 then dpG (dRun r (nums r).length).1 n else 0), .int .i64 (knV r n)]) := by
  (refine pc_sheet_Depth (Nat.le_of_ble_eq_true rfl) fun R hG hrd => GO_AR mixed 1000 ?_; subst hG)
  simp -implicitDefEqProofs [rc_sheet_Depth, rr_sheet_Depth, rega]
  (first | refine CallK.of (known_pc hG r n h) (by simp) ?_ | refine CallD.of (known_pc hG r n h) (by simp) ?_)
  by_cases e : knV r n = 0
  · have e1 : openV r = 0 := by
      unfold knV at e
      split at e
      · assumption
      · exact e
    have hL := open_listed e1
    simp -implicitDefEqProofs [e]
    (first | refine CallK.of (depths_pc r h (ord_of hL) (listed_20 hL)) (by simp) ?_ | refine CallD.of (depths_pc r h (ord_of hL) (listed_20 hL)) (by simp) ?_)
    simp -implicitDefEqProofs [get_dp, dpG]
    cases q : dpLk n (dRun r (nums r).length).1 <;> simp -implicitDefEqProofs [q]
  · simp -implicitDefEqProofs [e]

theorem ren_rowI (ρ : Nat → Nat) (l : List (Int × Int)) : (AObj.row 2 (l.map ita)).ren ρ = .row 2 (l.map ita) := by
  simp only [AObj.ren, List.map_map]
  congr 2
  funext p; simp [ita, AV.ren]
theorem ren_rowD (ρ : Nat → Nat) (l : List Dm) : (AObj.row 3 (l.map dma)).ren ρ = .row 3 (l.map dma) := by
  simp only [AObj.ren, List.map_map]
  congr 2
  funext p; simp [dma, AV.ren]

/-- What At returns. -/
def atP (r : List Iss) (d l : Int) : Iss × Int := if openV r = 0 then match findN d l r with
    | some x => (x, 0)
    | none => (zI, 6)
  else (zI, openV r)
/-- An issue whose lists are owned. -/
def owI (k k2 : Nat) (x : Iss) : AV := .agg [.int .i64 x.d, .int .i64 x.l, .int .u8 x.k, owV k (x.its.map ita), owV k2 (x.dms.map dma)]
def owQ (k k2 : Nat) (x : Iss) : List (Nat × AObj) := owO k 2 (x.its.map ita) ++ owO k2 3 (x.dms.map dma)

theorem atP_pb (hG : GC G) (r : List Iss) (d l : Int) (h : Wf r) : (openV r = 0 → (findN d l r).isSome = true → PB Tryd.prog G 27 [] [rega r, .agg [.int .i64 d, .int .i64 l]] (.tup [owI 1005 1008 (atP r d l).1, .int .i64 (atP r d l).2]) (owQ 1005 1008 (atP r d l).1)) := by
  intro e hf
  obtain ⟨x, hf⟩ := Option.isSome_iff_exists.1 hf
  refine PBo_of newK (by intro k hk; simp [newK] at hk; omega) Tryd.func27 rfl (by kernel_rfl) (rc := rc_sheet_At) (by kernel_rfl) (rs := rr_sheet_At) (by kernel_rfl) (Nat.le_of_ble_eq_true rfl) fun R _ hG' hrd => GO_AR mixed 1000 ?_
  subst hG'
  have hL := open_listed e
  have hO := ord_of hL
  have hx := h.1.2 x (findN_mem hf).1
  have ev : atP r d l = (x, 0) := by simp [atP, e, hf]
  rw [ev]
  simp -implicitDefEqProofs [rc_sheet_At, rr_sheet_At, rega]
  (first | refine CallK.of (open_pc hG r h) (by simp) ?_ | refine CallD.of (open_pc hG r h) (by simp) ?_)
  simp -implicitDefEqProofs [openA, e]
  (first | refine CallK.of (find_pcS r (nums r) d l (ord_map hO) h.1.1 (find_own hL)) (by simp) ?_ | refine CallD.of (find_pcS r (nums r) d l (ord_map hO) h.1.1 (find_own hL)) (by simp) ?_)
  simp -implicitDefEqProofs [hf, fndA, isa]
  by_cases e1 : x.its = [] <;> by_cases e2 : x.dms = []
  · refine CallK.sem (CallSem.objs (copied_pb x hx.1 hx.2) (fun k => k + 1000) (by simp [owO, e1, e2]) (by simp [owO, e1, e2]) (by simp [isa, e1, e2]) rfl rfl) ?_
    simp -implicitDefEqProofs [owV, owO, owI, owQ, e1, e2, setsB, AV.ren, FinO, frzSt, newK, frzA, frz, AV.keys]
  · refine CallK.sem (CallSem.objs (copied_pb x hx.1 hx.2) (fun k => k + 1000) (by simp [owO, e1, e2]) (by simp [owO, e1, e2, St.get, lk]) (by simp [isa, e1]) rfl rfl) ?_
    simp -implicitDefEqProofs [owV, owO, owI, owQ, e1, e2, setsB, ren_rowD, AV.ren, FinO, frzSt, newK, frz_rowD, frzA, frz, AV.keys]
  · refine CallK.sem (CallSem.objs (copied_pb x hx.1 hx.2) (fun k => k + 1000) (by simp [owO, e1, e2]) (by simp [owO, e1, e2, St.get, lk]) (by simp [isa, e2]) rfl rfl) ?_
    simp -implicitDefEqProofs [owV, owO, owI, owQ, e1, e2, setsB, ren_rowI, AV.ren, FinO, frzSt, newK, frz_rowI, frzA, frz, AV.keys]
  · refine CallK.sem (CallSem.objs (copied_pb x hx.1 hx.2) (fun k => k + 1000) (by simp [owO, e1, e2]) (by simp [owO, e1, e2, St.get, lk]) (by simp [isa]) rfl rfl) ?_
    simp -implicitDefEqProofs [owV, owO, owI, owQ, e1, e2, setsB, ren_rowI, ren_rowD, AV.ren, FinO, frzSt, newK, frz_rowI, frz_rowD, frzA, frz, AV.keys]
end
end Go.Proofs.YtdpmioiamcgfkaaDoor

/-! The plain law: what the program tells of a register is what the reference tells. -/
namespace Go.Proofs.YtdpmioiamcgfkaaDoor
open Go.RowKit

/-- The numbers of all items of a list of issues. -/
def chL (l : List Iss) : List Int := l.flatMap fun x => x.its.map (·.1)
theorem chL_cons (x : Iss) (l : List Iss) : chL (x :: l) = x.its.map (·.1) ++ chL l := rfl
def C (r : List Iss) (n : Int) : List Int := chL (issOf r n)

/-! ### The reference's rounds. -/
def dvL (f : Int → Int) (m : Int) (l : List Iss) : Int := l.foldl (fun m x => dvIt f (max m 1) x.its) m
theorem dvN_eq (r : List Iss) (f : Int → Int) (n : Int) : ∀ i, i ≤ r.length → dvN r f n i = dvL f 0 (issOf (r.take i) n)
  | 0, _ => by simp [dvN, issOf, dvL]
  | i + 1, hi => by
    have hlt : i < r.length := by omega
    have ih := dvN_eq r f n i (by omega)
    rw [List.take_succ_eq_append_getElem hlt, issOf, List.filter_append, dvN, at_eq hlt]
    by_cases e : r[i].d = n
    · rw [if_pos e, ih, List.filter_cons_of_pos (by simpa using e), dvL, dvL, List.foldl_append]; rfl
    · rw [if_neg e, ih, List.filter_cons_of_neg (by simpa using e), List.filter_nil, List.append_nil]; rfl
theorem dvIt_spec (f : Int → Int) : ∀ (its : List (Int × Int)) (m : Int), m ≤ dvIt f m its ∧ (∀ y ∈ its, 1 + f y.1 ≤ dvIt f m its) ∧ (dvIt f m its = m ∨ ∃ y ∈ its, dvIt f m its = 1 + f y.1)
  | [], m => ⟨Int.le_refl _, by simp, .inl rfl⟩
  | y :: its, m => by
    obtain ⟨h1, h2, h3⟩ := dvIt_spec f its (max m (1 + f y.1))
    have e : dvIt f m (y :: its) = dvIt f (max m (1 + f y.1)) its := rfl
    rw [e]
    refine ⟨by omega, fun z hz => ?_, ?_⟩
    · rcases List.mem_cons.1 hz with rfl | hz
      · omega
      · exact h2 z hz
    · rcases h3 with h3 | ⟨z, hz, h3⟩
      · rcases Int.le_total m (1 + f y.1) with hm | hm
        · exact .inr ⟨y, List.mem_cons_self .., by omega⟩
        · exact .inl (by omega)
      · exact .inr ⟨z, List.mem_cons_of_mem _ hz, h3⟩
theorem dvL_spec (f : Int → Int) : ∀ (l : List Iss) (m : Int), m ≤ dvL f m l ∧ (l ≠ [] → 1 ≤ dvL f m l) ∧ (∀ c ∈ chL l, 1 + f c ≤ dvL f m l) ∧ (dvL f m l = m ∨ dvL f m l = 1 ∨ ∃ c ∈ chL l, dvL f m l = 1 + f c)
  | [], m => ⟨Int.le_refl _, by simp, by simp [chL], .inl rfl⟩
  | x :: l, m => by
    obtain ⟨h1, h2, h3⟩ := dvIt_spec f x.its (max m 1)
    obtain ⟨g1, g2, g3, g4⟩ := dvL_spec f l (dvIt f (max m 1) x.its)
    have e : dvL f m (x :: l) = dvL f (dvIt f (max m 1) x.its) l := rfl
    rw [e]
    have q1 : m ≤ max m 1 := Int.le_max_left ..
    have q2 : 1 ≤ max m 1 := Int.le_max_right ..
    refine ⟨Int.le_trans q1 (Int.le_trans h1 g1), fun _ => Int.le_trans q2 (Int.le_trans h1 g1), fun c hc => ?_, ?_⟩
    · rw [chL_cons] at hc
      rcases List.mem_append.1 hc with hc | hc
      · obtain ⟨y, hy, rfl⟩ := List.mem_map.1 hc
        exact Int.le_trans (h2 y hy) g1
      · exact g3 c hc
    · rcases g4 with g4 | g4 | ⟨c, hc, g4⟩
      · rcases h3 with h3 | ⟨y, hy, h3⟩
        · rcases Int.le_total m 1 with hm | hm
          · exact .inr (.inl (by omega))
          · exact .inl (by omega)
        · exact .inr (.inr ⟨y.1, by rw [chL_cons]; exact List.mem_append.2 (.inl (List.mem_map.2 ⟨y, hy, rfl⟩)), by omega⟩)
      · exact .inr (.inl g4)
      · exact .inr (.inr ⟨c, by rw [chL_cons]; exact List.mem_append.2 (.inr hc), g4⟩)

section
variable {r : List Iss}

theorem issOf_ne (hO : Ord r) {n : Int} (hn : n ∈ nums r) : issOf r n ≠ [] := by
  obtain ⟨i, hi, rfl⟩ := nums_of hO hn
  exact List.ne_nil_of_mem (a := r[i]) (List.mem_filter.2 ⟨List.getElem_mem hi, by simp⟩)
theorem Dv_eq (r : List Iss) (k : Nat) (n : Int) : Dv r (k + 1) n = dvL (Dv r k) 0 (issOf r n) := by
  rw [Dv, dvN_eq r _ n _ (Nat.le_refl _), List.take_length]
theorem Dv_ch (k : Nat) (n : Int) {c : Int} (hc : c ∈ C r n) : 1 + Dv r k c ≤ Dv r (k + 1) n := by
  rw [Dv_eq]; exact (dvL_spec _ _ _).2.2.1 c hc
theorem Dv_one (hO : Ord r) (k : Nat) {n : Int} (hn : n ∈ nums r) : 1 ≤ Dv r (k + 1) n := by
  rw [Dv_eq]; exact (dvL_spec _ _ _).2.1 (issOf_ne hO hn)
theorem Dv_or (hO : Ord r) (k : Nat) {n : Int} (hn : n ∈ nums r) : Dv r (k + 1) n = 1 ∨ ∃ c ∈ C r n, Dv r (k + 1) n = 1 + Dv r k c := by
  have h1 := Dv_one hO k hn
  rw [Dv_eq] at *
  rcases (dvL_spec (Dv r k) (issOf r n) 0).2.2.2 with h | h | h
  · omega
  · exact .inl h
  · exact .inr h
theorem C_in (hin : ∀ x ∈ r, ItsIn r x) {n c : Int} (hc : c ∈ C r n) : c ∈ nums r := by
  obtain ⟨x, hx, hc⟩ := List.mem_flatMap.1 hc
  obtain ⟨y, hy, rfl⟩ := List.mem_map.1 hc
  exact hin x (List.mem_filter.1 hx).1 y hy

/-! ### The program's passes. -/
theorem rdIt_iff (lf : List Int) : ∀ (its : List (Int × Int)) (b : Bool), rdIt lf b its = true ↔ b = true ∧ ∀ y ∈ its, y.1 ∉ lf
  | [], b => by simp [rdIt]
  | y :: its, b => by
    have e : rdIt lf b (y :: its) = rdIt lf (b && !decide (y.1 ∈ lf)) its := rfl
    rw [e, rdIt_iff lf its]
    simp [and_assoc]
theorem rdN_iff (lf : List Int) : ∀ (l : List Iss) (b : Bool), rdN lf b l = true ↔ b = true ∧ ∀ c ∈ chL l, c ∉ lf
  | [], b => by simp [rdN, chL]
  | x :: l, b => by
    have e : rdN lf b (x :: l) = rdN lf (rdIt lf b x.its) l := rfl
    rw [e, rdN_iff lf l, rdIt_iff, chL_cons]
    simp only [List.mem_append, List.mem_map]
    constructor
    · rintro ⟨⟨h1, h2⟩, h3⟩
      refine ⟨h1, fun c hc => ?_⟩
      rcases hc with ⟨y, hy, rfl⟩ | hc
      · exact h2 y hy
      · exact h3 c hc
    · rintro ⟨h1, h2⟩
      exact ⟨⟨h1, fun y hy => h2 _ (.inl ⟨y, hy, rfl⟩)⟩, fun c hc => h2 c (.inr hc)⟩
theorem msIt_spec (dp : List (Int × Int)) : ∀ (its : List (Int × Int)) (m : Int), m ≤ msIt dp m its ∧ (∀ y ∈ its, dpG dp y.1 ≤ msIt dp m its) ∧ (msIt dp m its = m ∨ ∃ y ∈ its, msIt dp m its = dpG dp y.1)
  | [], m => ⟨Int.le_refl _, by simp, .inl rfl⟩
  | y :: its, m => by
    obtain ⟨h1, h2, h3⟩ := msIt_spec dp its (max m (dpG dp y.1))
    have e : msIt dp m (y :: its) = msIt dp (max m (dpG dp y.1)) its := rfl
    rw [e]
    refine ⟨by omega, fun z hz => ?_, ?_⟩
    · rcases List.mem_cons.1 hz with rfl | hz
      · omega
      · exact h2 z hz
    · rcases h3 with h3 | ⟨z, hz, h3⟩
      · rcases Int.le_total m (dpG dp y.1) with hm | hm
        · exact .inr ⟨y, List.mem_cons_self .., by omega⟩
        · exact .inl (by omega)
      · exact .inr ⟨z, List.mem_cons_of_mem _ hz, h3⟩
theorem msN_spec (dp : List (Int × Int)) : ∀ (l : List Iss) (m : Int), m ≤ msN dp m l ∧ (∀ c ∈ chL l, dpG dp c ≤ msN dp m l) ∧ (msN dp m l = m ∨ ∃ c ∈ chL l, msN dp m l = dpG dp c)
  | [], m => ⟨Int.le_refl _, by simp [chL], .inl rfl⟩
  | x :: l, m => by
    obtain ⟨h1, h2, h3⟩ := msIt_spec dp x.its m
    obtain ⟨g1, g2, g3⟩ := msN_spec dp l (msIt dp m x.its)
    have e : msN dp m (x :: l) = msN dp (msIt dp m x.its) l := rfl
    rw [e]
    refine ⟨by omega, fun c hc => ?_, ?_⟩
    · rw [chL_cons] at hc
      rcases List.mem_append.1 hc with hc | hc
      · obtain ⟨y, hy, rfl⟩ := List.mem_map.1 hc
        have := h2 y hy; omega
      · exact g2 c hc
    · rcases g3 with g3 | ⟨c, hc, g3⟩
      · rcases h3 with h3 | ⟨y, hy, h3⟩
        · exact .inl (by omega)
        · exact .inr ⟨y.1, by rw [chL_cons]; exact List.mem_append.2 (.inl (List.mem_map.2 ⟨y, hy, rfl⟩)), by omega⟩
      · exact .inr ⟨c, by rw [chL_cons]; exact List.mem_append.2 (.inr hc), g3⟩

theorem dpLk_some {n : Int} : ∀ {dp : List (Int × Int)}, n ∈ dp.map (·.1) → ∃ v, dpLk n dp = some v
  | [], h => by simp at h
  | p :: dp, h => by
    simp only [dpLk]
    split
    · exact ⟨_, rfl⟩
    · rename_i e
      simp only [List.map_cons, List.mem_cons] at h
      exact dpLk_some (h.resolve_left fun e2 => e (by rw [e2]))

/-- What is reached has its depth, in all later rounds of the reference. -/
def AInv (r : List Iss) (s : List (Int × Int) × List Int) : Prop := ∀ p ∈ s.1, ∀ j : Nat, p.2 ≤ j → Dv r j p.1 = p.2
theorem AInv.step (hO : Ord r) (hin : ∀ x ∈ r, ItsIn r x) {s : List (Int × Int) × List Int} (hd : DInv r s) (h : AInv r s) {n : Int} (hn : n ∈ nums r) : AInv r (dStep r s n) := by
  unfold dStep
  split
  · rename_i hb
    obtain ⟨h1, h2⟩ := (rdN_iff _ _ _).1 hb
    have kids : ∀ c ∈ C r n, (c, dpG s.1 c) ∈ s.1 := fun c hc => by
      have hc1 : c ∈ s.1.map (·.1) ++ s.2 := hd.perm.mem_iff.2 (C_in hin hc)
      have hc2 : c ∈ s.1.map (·.1) := (List.mem_append.1 hc1).resolve_right (h2 c hc)
      obtain ⟨v, hv⟩ := dpLk_some hc2
      have := dpLk_mem hv
      rwa [show dpG s.1 c = v by simp [dpG, hv]]
    obtain ⟨m1, m2, m3⟩ := msN_spec s.1 (issOf r n) 0
    intro p hp j hj
    rcases List.mem_append.1 hp with hp | hp
    · exact h p hp j hj
    · simp only [List.mem_singleton] at hp
      subst hp
      simp only at hj ⊢
      obtain ⟨j, rfl⟩ : ∃ j', j = j' + 1 := ⟨j - 1, by omega⟩
      have same : ∀ c ∈ C r n, Dv r j c = dpG s.1 c := fun c hc => by
        have := m2 c hc
        exact h _ (kids c hc) j (by simp only; omega)
      have o1 := Dv_one hO j hn
      apply Int.le_antisymm
      · rcases Dv_or hO j hn with e | ⟨c, hc, e⟩
        · omega
        · have := m2 c hc; have := same c hc; omega
      · rcases m3 with e | ⟨c, hc, e⟩
        · omega
        · have := Dv_ch (r := r) j n hc; have := same c hc; omega
  · exact h
theorem AInv.fold (hO : Ord r) (hin : ∀ x ∈ r, ItsIn r x) : ∀ (l : List Int) {s : List (Int × Int) × List Int}, (∀ n ∈ l, n ∈ nums r) → DInv r s → AInv r s → AInv r (l.foldl (dStep r) s)
  | [], s, _, _, h => h
  | n :: l, s, hl, hd, h => AInv.fold hO hin l (fun m hm => hl m (List.mem_cons_of_mem _ hm)) (hd.step n) (h.step hO hin hd (hl n (List.mem_cons_self ..)))
theorem AInv.run (hO : Ord r) (hin : ∀ x ∈ r, ItsIn r x) : ∀ k, AInv r (dRun r k)
  | 0 => by intro p hp; simp [dRun] at hp
  | k + 1 => AInv.fold hO hin (nums r) (fun _ h => h) (DInv.run r k) (AInv.run hO hin k)

/-- Nothing more is reached. -/
def Stuck (r : List Iss) (L : List Int) : Prop := ∀ n ∈ L, ∃ c ∈ C r n, c ∈ L
theorem step_not {s : List (Int × Int) × List Int} {n : Int} (h : ¬ rdN s.2 (decide (n ∈ s.2)) (issOf r n) = true) : dStep r s n = s ∧ (n ∈ s.2 → ∃ c ∈ C r n, c ∈ s.2) := by
  refine ⟨by unfold dStep; rw [if_neg h], fun hn => ?_⟩
  rw [rdN_iff] at h
  by_cases e : ∃ c ∈ C r n, c ∈ s.2
  · exact e
  · exact absurd ⟨decide_eq_true hn, fun c hc h2 => e ⟨c, hc, h2⟩⟩ h
theorem step_len (s : List (Int × Int) × List Int) (n : Int) : (dStep r s n).2.length ≤ s.2.length := by
  unfold dStep
  split
  · exact List.length_erase_le
  · exact Nat.le_refl _
theorem fold_len : ∀ (l : List Int) (s : List (Int × Int) × List Int), (l.foldl (dStep r) s).2.length ≤ s.2.length
  | [], s => Nat.le_refl _
  | n :: l, s => Nat.le_trans (fold_len l _) (step_len s n)
theorem fold_dec : ∀ (l : List Int) (s : List (Int × Int) × List Int), (l.foldl (dStep r) s).2.length < s.2.length ∨ (l.foldl (dStep r) s = s ∧ ∀ n ∈ l, n ∈ s.2 → ∃ c ∈ C r n, c ∈ s.2)
  | [], s => .inr ⟨rfl, by simp⟩
  | n :: l, s => by
    by_cases e : rdN s.2 (decide (n ∈ s.2)) (issOf r n) = true
    · refine .inl (Nat.lt_of_le_of_lt (fold_len l _) ?_)
      have hm := rdN_mem e
      unfold dStep
      rw [if_pos e]
      have := List.length_erase_of_mem hm
      have := List.length_pos_of_mem hm
      simp only; omega
    · obtain ⟨h1, h2⟩ := step_not e
      rw [List.foldl_cons, h1]
      rcases fold_dec l s with h | ⟨h3, h4⟩
      · exact .inl h
      · refine .inr ⟨h3, fun m hm => ?_⟩
        rcases List.mem_cons.1 hm with rfl | hm
        · exact h2
        · exact h4 m hm
theorem fold_stuck : ∀ (l : List Int) {s : List (Int × Int) × List Int}, Stuck r s.2 → l.foldl (dStep r) s = s
  | [], s, _ => rfl
  | n :: l, s, h => by
    have : ¬ rdN s.2 (decide (n ∈ s.2)) (issOf r n) = true := fun e => by
      have hm := rdN_mem e
      obtain ⟨c, hc, h2⟩ := h n hm
      exact ((rdN_iff _ _ _).1 e).2 c hc h2
    rw [List.foldl_cons, (step_not this).1]
    exact fold_stuck l h
theorem run_or (r : List Iss) : ∀ k, (dRun r k).2.length + k ≤ (nums r).length ∨ Stuck r (dRun r k).2
  | 0 => .inl (by simp [dRun])
  | k + 1 => by
    have hsub : ∀ n ∈ (dRun r k).2, n ∈ nums r := fun n hn => (DInv.run r k).perm.mem_iff.1 (List.mem_append.2 (.inr hn))
    rcases run_or r k with h | h
    · rcases fold_dec (r := r) (nums r) (dRun r k) with h2 | ⟨h2, h3⟩
      · exact .inl (by simp only [dRun, dPass]; omega)
      · refine .inr ?_
        simp only [dRun, dPass]
        rw [h2]
        exact fun n hn => h3 n (hsub n hn) hn
    · refine .inr ?_
      simp only [dRun, dPass]
      rw [fold_stuck (nums r) h]; exact h
theorem stuck_Dv {L : List Int} (h : Stuck r L) : ∀ (k : Nat) (n : Int), n ∈ L → (k : Int) ≤ Dv r k n
  | 0, n, _ => by simp [Dv]
  | k + 1, n, hn => by
    obtain ⟨c, hc, h2⟩ := h n hn
    have := stuck_Dv h k c h2
    have := Dv_ch (r := r) k n hc
    omega

theorem most_lt (g : Int → Int) (K : Int) : ∀ (l : List Int) (m : Int), K < l.foldl (fun m n => max m (g n)) m ↔ K < m ∨ ∃ n ∈ l, K < g n
  | [], m => by simp
  | n :: l, m => by
    rw [List.foldl_cons, most_lt g K l]
    simp only [List.mem_cons, exists_eq_or_imp]
    rw [← or_assoc]
    refine or_congr_left ?_
    omega
theorem mostV_lt {l : List Int} {g : Int → Int} {K : Int} (hK : 0 ≤ K) : K < mostV l g ↔ ∃ n ∈ l, K < g n := by
  rw [mostV, most_lt]
  constructor
  · rintro (h | h)
    · omega
    · exact h
  · exact .inr

/-- Where no drawing is left, depths are the reference's. -/
theorem dp_Dv (hL : listedB r = true) (h : (dRun r (nums r).length).2.length = 0) {n : Int} (hn : n ∈ nums r) : (n, dpG (dRun r (nums r).length).1 n) ∈ (dRun r (nums r).length).1 ∧ Dv r ((nums r).length + 1) n = dpG (dRun r (nums r).length).1 n := by
  have hd := DInv.run r (nums r).length
  have h0 : (dRun r (nums r).length).2 = [] := List.length_eq_zero_iff.1 h
  have h1 : n ∈ (dRun r (nums r).length).1.map (·.1) := by
    have := hd.perm.mem_iff.2 hn
    rwa [h0, List.append_nil] at this
  obtain ⟨v, hv⟩ := dpLk_some h1
  have hm := dpLk_mem hv
  have e : dpG (dRun r (nums r).length).1 n = v := by simp [dpG, hv]
  rw [e]
  refine ⟨hm, ?_⟩
  have hb := hd.bd _ hm
  have hl := hd.len
  exact AInv.run (ord_of hL) (fun x hx => listed_in hL hx) _ _ hm _ (by simp only at hb ⊢; omega)

theorem open_chk (r : List Iss) : openV r = chkV r := by
  unfold openV chkV
  cases hL : listedB r
  · rfl
  · simp only [if_true]
    by_cases h : 0 < (dRun r (nums r).length).2.length
    · rw [if_pos h]
      have hs : Stuck r (dRun r (nums r).length).2 := (run_or r (nums r).length).resolve_left (by omega)
      obtain ⟨n, hn⟩ := List.exists_mem_of_length_pos h
      have hn2 : n ∈ nums r := (DInv.run r _).perm.mem_iff.1 (List.mem_append.2 (.inr hn))
      have := stuck_Dv hs ((nums r).length + 1) n hn
      rw [if_pos ((mostV_lt (by omega)).2 ⟨n, hn2, by omega⟩)]
    · rw [if_neg h]
      have h0 : (dRun r (nums r).length).2.length = 0 := by omega
      have hd := DInv.run r (nums r).length
      have hl := hd.len
      have e1 : (∃ p ∈ (dRun r (nums r).length).1, 6 < p.2) ↔ 6 < mostV (nums r) (Dv r ((nums r).length + 1)) := by
        rw [mostV_lt (by omega)]
        constructor
        · rintro ⟨p, hp, h6⟩
          have hn : p.1 ∈ nums r := hd.perm.mem_iff.1 (List.mem_append.2 (.inl (List.mem_map.2 ⟨p, hp, rfl⟩)))
          refine ⟨p.1, hn, ?_⟩
          have hb := hd.bd _ hp
          rw [AInv.run (ord_of hL) (fun x hx => listed_in hL hx) _ _ hp _ (by omega)]; exact h6
        · rintro ⟨n, hn, h6⟩
          obtain ⟨h1, h2⟩ := dp_Dv hL h0 hn
          rw [h2] at h6
          exact ⟨_, h1, h6⟩
      have e2 : ¬ ((nums r).length : Int) < mostV (nums r) (Dv r ((nums r).length + 1)) := by
        rw [mostV_lt (by omega)]
        rintro ⟨n, hn, h6⟩
        obtain ⟨h1, h2⟩ := dp_Dv hL h0 hn
        have := hd.bd _ h1
        rw [h2] at h6
        simp only at this
        omega
      rw [if_neg e2]
      by_cases c : 6 < mostV (nums r) (Dv r ((nums r).length + 1))
      · rw [if_pos c, if_pos (e1.2 c)]
      · rw [if_neg c, if_neg fun e => c (e1.1 e)]

theorem left_none {r : List Iss} (h : openV r = 0) : (dRun r (nums r).length).2.length = 0 := by
  unfold openV at h
  split at h
  · split at h
    · cases h
    · omega
  · cases h

/-! ### Letters. -/
theorem issOf_succ {i : Nat} (hi : i < r.length) (n : Int) : issOf (r.take (i + 1)) n = if r[i].d = n then issOf (r.take i) n ++ [r[i]] else issOf (r.take i) n := by
  rw [List.take_succ_eq_append_getElem hi, issOf, List.filter_append]
  split
  · rename_i e; rw [List.filter_cons_of_pos (by simpa using e)]; rfl
  · rename_i e; rw [List.filter_cons_of_neg (by simpa using e), List.filter_nil, List.append_nil]; rfl
theorem let_eq (hL : listedB r = true) : ∀ (i : Nat) (hi : i < r.length), r[i].l = ((issOf (r.take (i + 1)) r[i].d).length : Nat)
  | 0, hi => by
    have h0 := listed_ord hL hi
    simp only [ordB, decide_eq_true_eq, at_eq hi] at h0
    rw [h0, issOf_succ hi, if_pos rfl]; simp [issOf]
  | j + 1, hi => by
    have hj : j < r.length := by omega
    have h0 := listed_ord hL hi
    have ih := let_eq hL j hj
    have hO := ord_of hL
    rw [issOf_succ hi, if_pos rfl]
    simp only [ordB, at_eq hi, at_eq hj] at h0
    split at h0
    · cases h0
    · split at h0
      · rename_i h1 h2
        have e : issOf (r.take (j + 1)) r[j + 1].d = [] := by
          rw [issOf, List.filter_eq_nil_iff]
          intro x hx
          obtain ⟨k, hk, rfl⟩ := List.getElem_of_mem hx
          simp only [List.length_take] at hk
          have := hO.mono (i := k) (j := j) (by omega) hj
          rw [at_eq (show k < r.length by omega), at_eq hj] at this
          simp only [List.getElem_take, decide_eq_true_eq]
          omega
        rw [e]
        simpa using h0
      · rename_i h1 h2
        simp only [Bool.and_eq_true, decide_eq_true_eq] at h0
        have e : r[j + 1].d = r[j].d := by omega
        rw [e, h0.1, ih]
        simp
theorem lastN_eq (hL : listedB r = true) (n : Int) : ∀ i, i ≤ r.length → lastN r n i = ((issOf (r.take i) n).length : Nat)
  | 0, _ => by simp [lastN, issOf]
  | i + 1, hi => by
    have hlt : i < r.length := by omega
    have ih := lastN_eq hL n i (by omega)
    rw [lastN, at_eq hlt, issOf_succ hlt]
    split
    · rename_i e
      have := let_eq hL i hlt
      rw [e, issOf_succ hlt, if_pos e] at this
      rw [ih, this]
      simp only [List.length_append, List.length_cons, List.length_nil]
      omega
    · exact ih
theorem last_cnt (hL : listedB r = true) (n : Int) : lastV r n = cntV r n := by
  rw [lastV, lastN_eq hL n _ (Nat.le_refl _), List.take_length]; rfl
theorem cnt_zero (hL : listedB r = true) (n : Int) : cntV r n = 0 ↔ n ∉ nums r := by
  constructor
  · intro h hn
    have := issOf_ne (ord_of hL) hn
    have h2 : (issOf r n).length = 0 := by unfold cntV at h; unfold issOf; omega
    exact this (List.length_eq_zero_iff.1 h2)
  · intro h
    have : issOf r n = [] := by
      rw [issOf, List.filter_eq_nil_iff]
      intro x hx
      obtain ⟨k, hk, rfl⟩ := List.getElem_of_mem hx
      simp only [decide_eq_true_eq]
      intro e
      exact h (e ▸ nums_mem (ord_of hL) hk)
    unfold cntV; unfold issOf at this; rw [this]; rfl

/-! ### What is told. -/
theorem draw_eq (r : List Iss) : drawV r = (if openV r = 0 then nums r else [], openV r) := by
  unfold drawV
  rw [← open_chk]
  split
  · rename_i h; rw [h]
  · rfl
theorem last_eq (r : List Iss) (n : Int) : lastE r n = (if knV r n = 0 then cntV r n else 0, knV r n) := by
  unfold lastE knV
  rw [← open_chk]
  by_cases h : openV r = 0
  · have hL := open_listed h
    simp only [h, if_true, last_cnt hL, cnt_zero hL]
    by_cases c : n ∈ nums r <;> simp [c]
  · simp [h]
theorem dep_eq (r : List Iss) (n : Int) : depV r n = (if knV r n = 0 then dpG (dRun r (nums r).length).1 n else 0, knV r n) := by
  unfold depV knV
  rw [← open_chk]
  by_cases h : openV r = 0
  · have hL := open_listed h
    by_cases c : n ∈ nums r
    · simp [h, c, (dp_Dv hL (left_none h) c).2]
    · simp [h, c]
  · simp [h]
theorem at_eqV (r : List Iss) (d l : Int) : atV r d l = atP r d l := by
  unfold atV atP
  rw [← open_chk]
  split <;> (try cases findN d l r) <;> rfl
end
end Go.Proofs.YtdpmioiamcgfkaaDoor

/-! The reference's Twin, by the abstract machine. -/
namespace Go.Proofs.YtdpmioiamcgfkaaDoor
open Go.RowKit

def twR (r : List Iss) (i : Nat) : List (List AV) := (r.take i).map isa
theorem twR_len {r : List Iss} {i : Nat} (h : i ≤ r.length) : (twR r i).length = i := by simp [twR]; omega
theorem twR_succ {r : List Iss} {i : Nat} (h : i < r.length) : twR r (i + 1) = twR r i ++ [[.int .i64 r[i].d, .int .i64 r[i].l, .int .u8 r[i].k, .vsl (r[i].its.map ita), .vsl (r[i].dms.map dma)]] := by
  rw [twR, List.take_succ_eq_append_getElem h, List.map_append]; rfl
theorem twR_kept {r : List Iss} {i : Nat} (o : List (Nat × AObj)) : keptO o (.row 5 (twR r i)) = true := by
  simp only [keptO, List.all_eq_true, twR, List.mem_map]
  rintro x ⟨y, -, rfl⟩ v hv
  simp only [isa, List.mem_cons, List.not_mem_nil, or_false] at hv
  rcases hv with rfl | rfl | rfl | rfl | rfl <;> simp [keptA, AV.keys]
theorem twR_end (r : List Iss) : twR r r.length = r.map isa := by rw [twR, List.take_length]
def twS (r : List Iss) : Nat → St
  | 0 => ⟨[(4, .int .i64 0), (3, .ptr 3 0), (1, .ptr 1 0), (2, .ptr 2 0)], [(1, .box [.vsl (r.map isa)]), (2, .box [.nils]), (3, .box [.nils])]⟩
  | i + 1 => ⟨[(4, .int .i64 (i + 1 : Nat)), (3, .ptr 3 0), (1, .ptr 1 0), (2, .ptr 2 0)], [(1, .box [.vsl (r.map isa)]), (2, .box [.nils]), (3, .box [.osl 21 (i + 1)]), (21, .row 5 (twR r (i + 1)))]⟩

section
variable {G : Nat → Option (List AV)}

theorem twin_pc (r : List Iss) (h : SmlR r) : PC Tryd.prog G 19 [rega r] (rega r) := by
  by_cases h0 : r = []
  · subst h0
    refine PC.nzR (v := .agg [.nils]) ?_ (by simp [nz, rega])
    (refine pc_ref02_Twin (Nat.le_of_ble_eq_true rfl) fun R hG hrd => GO_AR mixed 1000 ?_; subst hG)
    simp -implicitDefEqProofs [rc_ref02_Twin, rr_ref02_Twin, rega]
    refine AR_for (twS []) (fun _ => True) 0 (by simp only [twS]; (first | exact Weak.tm (by simp [lk]) | exact Weak.sub (by simp [lk, keptA, AV.keys]) (by simp [lk, keptO, keptA, AV.keys]))) trivial (fun i hi => by omega) fun _ => ?_
    refine GO_AR mixed 1000 ?_
    simp -implicitDefEqProofs [twS]
    refine GO_ret mixed 1000 ?_
    simp -implicitDefEqProofs []
  · (refine pc_ref02_Twin (Nat.le_of_ble_eq_true rfl) fun R hG hrd => GO_AR mixed 1000 ?_; subst hG)
    have hs := h.1
    unfold Sml at hs
    simp -implicitDefEqProofs [rc_ref02_Twin, rr_ref02_Twin, rega]
    refine AR_for (twS r) (fun _ => True) r.length (by simp only [twS]; (first | exact Weak.tm (by simp [lk]) | exact Weak.sub (by simp [lk, keptA, AV.keys]) (by simp [lk, keptO, keptA, AV.keys]))) trivial ?_ ?_
    · intro i hi _
      refine GO_AR mixed 1000 ?_
      have hx := h.2 r[i] (List.getElem_mem hi)
      have tk := twR_succ hi
      have ln := twR_len (Nat.le_of_lt hi)
      cases i with
      | zero =>
        have w1 : IntKind.i64.wrap 1 = 1 := rfl
        simp -implicitDefEqProofs [twS, hi, isa]
        (first | refine CallK.of (twinIssue_pc r[0] hx.1 hx.2) (by simp) ?_ | refine CallD.of (twinIssue_pc r[0] hx.1 hx.2) (by simp) ?_)
        simp -implicitDefEqProofs [w1, isa]
        refine ⟨rfl, ?_⟩
        have tk0 : twR r 1 = [[.int .i64 r[0].d, .int .i64 r[0].l, .int .u8 r[0].k, .vsl (r[0].its.map ita), .vsl (r[0].dms.map dma)]] := by rw [tk]; simp [twR]
        simp only [twS]
        exact Weak.sub (by simp [lk, keptA, AV.keys]) (by simp [lk, keptO, keptA, AV.keys, tk0])
      | succ i =>
        have w1 : IntKind.i64.wrap ((i : Int) + 1 + 1) = (i : Int) + 1 + 1 := wrapI (by omega) (by omega)
        have k1 : (i : Int) + 1 < r.length := by omega
        have k2 : ((i : Int) + 1).toNat = i + 1 := by omega
        have k3 : (0 : Int) ≤ (i : Int) + 1 := by omega
        have b2 : (i + 1 + 1) * 72 ≤ 70368744177664 := by omega
        simp -implicitDefEqProofs [twS, hi, k1, k2, k3, isa]
        (first | refine CallK.of (twinIssue_pc r[i + 1] hx.1 hx.2) (by simp) ?_ | refine CallD.of (twinIssue_pc r[i + 1] hx.1 hx.2) (by simp) ?_)
        simp -implicitDefEqProofs [w1, ln, b2, isa]
        refine ⟨rfl, ?_⟩
        simp only [twS]
        refine Weak.sub (by simp [lk, keptA, AV.keys]) ?_
        simp only [List.mem_cons, List.not_mem_nil, or_false, forall_eq_or_imp, forall_eq, twR_kept, and_true]
        simp [lk, keptO, keptA, AV.keys, tk]
    · intro _
      refine GO_AR mixed 1000 ?_
      obtain ⟨n, hn⟩ : ∃ n, r.length = n + 1 := ⟨r.length - 1, by
        have : r.length ≠ 0 := by simpa using h0
        omega⟩
      have k1 : ¬ (n : Int) + 1 < n + 1 := by omega
      have e1 : twR r (n + 1) = r.map isa := by rw [← hn, twR_end]
      have pu : (r.map isa).all (fun x => x.all AV.pure) = true := by simp [isa, AV.pure]
      rw [hn]
      simp -implicitDefEqProofs [twS, hn, k1, e1, pu]
      refine GO_ret mixed 1000 ?_
      simp -implicitDefEqProofs [pu, e1, hn]
end
end Go.Proofs.YtdpmioiamcgfkaaDoor

/-! Plain functions of parts and trees: letters, the issue that is taken, parts by counts, trees; and how the program's reckoning meets the reference's. -/
namespace Go.Proofs.YtdpmioiamcgfkaaDoor
open Go.RowKit

/-! ### Letters. -/
/-- The letter of a drawing. -/
def ltOf (r : List Iss) (lt : List Int) (n : Int) : Int := lt.getD ((nums r).idxOf n) 0
/-- The issue that is taken. -/
def tkV (r : List Iss) (lt : List Int) (n : Int) : Iss := (findN n (ltOf r lt n) r).getD zI
/-- The letters are right. -/
def ltB (r : List Iss) (lt : List Int) : Bool := decide (lt.length = (nums r).length) && (List.range (nums r).length).all fun i => inR (lt.getD i 0) 1 (lastV r ((nums r).getD i 0))
/-- The error of a register, letters, a drawing. -/
def askV (r : List Iss) (lt : List Int) (n : Int) : Int := if openV r ≠ 0 then openV r else if ltB r lt = false then 22 else if n ∈ nums r then 0 else 6

section
variable {r : List Iss}

theorem let_ex (hL : listedB r = true) (n : Int) : ∀ (i : Nat), i ≤ r.length → ∀ k : Nat, 1 ≤ k → k ≤ (issOf (r.take i) n).length → ∃ j, ∃ h : j < r.length, r[j].d = n ∧ r[j].l = k
  | 0, _, k, h1, h2 => by simp [issOf] at h2; omega
  | i + 1, hi, k, h1, h2 => by
    have hlt : i < r.length := by omega
    by_cases c : k ≤ (issOf (r.take i) n).length
    · exact let_ex hL n i (by omega) k h1 c
    · have hl := let_eq hL i hlt
      rw [issOf_succ hlt] at h2
      split at h2
      · rename_i e
        simp only [List.length_append, List.length_cons, List.length_nil] at h2
        refine ⟨i, hlt, e, ?_⟩
        rw [hl, e, issOf_succ hlt, if_pos e]
        simp only [List.length_append, List.length_cons, List.length_nil]
        omega
      · omega
theorem let_bd (hL : listedB r = true) {x : Iss} (hx : x ∈ r) : 1 ≤ x.l ∧ x.l ≤ cntV r x.d := by
  obtain ⟨i, hi, rfl⟩ := List.getElem_of_mem hx
  have h1 := let_eq hL i hi
  have h2 : (issOf (r.take (i + 1)) r[i].d).length ≤ (issOf r r[i].d).length := ((List.take_sublist (i + 1) r).filter _).length_le
  have h3 : 0 < (issOf (r.take (i + 1)) r[i].d).length := by rw [issOf_succ hi, if_pos rfl]; simp
  have h4 : cntV r r[i].d = ((issOf r r[i].d).length : Nat) := rfl
  omega
theorem find_mem (hL : listedB r = true) {x : Iss} (hx : x ∈ r) : findN x.d x.l r = some x := find_own hL x hx
/-- An issue is there just where its letter is from 1 to the last. -/
theorem find_iff (hL : listedB r = true) (n l : Int) : (findN n l r).isSome = true ↔ inR l 1 (lastV r n) = true := by
  rw [inR, decide_eq_true_eq, last_cnt hL]
  constructor
  · intro h
    obtain ⟨x, hx⟩ := Option.isSome_iff_exists.1 h
    obtain ⟨h1, rfl, rfl⟩ := findN_mem hx
    exact let_bd hL h1
  · rintro ⟨h1, h2⟩
    have h3 : cntV r n = ((issOf r n).length : Nat) := rfl
    obtain ⟨j, hj, rfl, e⟩ := let_ex hL n r.length (Nat.le_refl _) l.toNat (by omega) (by rw [List.take_length]; omega)
    have := find_mem hL (List.getElem_mem hj)
    rw [e, show ((l.toNat : Nat) : Int) = l by omega] at this
    rw [this]; rfl

theorem ltB_len {lt : List Int} (h : ltB r lt = true) : lt.length = (nums r).length := by
  simp only [ltB, Bool.and_eq_true, decide_eq_true_eq] at h; exact h.1
theorem nums_idx {n : Int} (hn : n ∈ nums r) : (nums r).idxOf n < (nums r).length ∧ (nums r).getD ((nums r).idxOf n) 0 = n := by
  have h1 : (nums r).idxOf n < (nums r).length := List.idxOf_lt_length_iff.2 hn
  exact ⟨h1, by rw [List.getD_eq_getElem?_getD, List.getElem?_eq_getElem h1, List.getElem_idxOf h1]; rfl⟩
theorem tk_some (hL : listedB r = true) {lt : List Int} (h : ltB r lt = true) {n : Int} (hn : n ∈ nums r) : findN n (ltOf r lt n) r = some (tkV r lt n) := by
  simp only [ltB, Bool.and_eq_true, decide_eq_true_eq] at h
  obtain ⟨h1, h2⟩ := nums_idx hn
  have := range_all.1 h.2 _ h1
  rw [h2, ← find_iff hL] at this
  obtain ⟨x, hx⟩ := Option.isSome_iff_exists.1 this
  have e : findN n (ltOf r lt n) r = some x := hx
  rw [tkV, e]; rfl
theorem tk_mem (hL : listedB r = true) {lt : List Int} (h : ltB r lt = true) {n : Int} (hn : n ∈ nums r) : tkV r lt n ∈ r ∧ (tkV r lt n).d = n :=
  let ⟨h1, h2, _⟩ := findN_mem (tk_some hL h hn); ⟨h1, h2⟩
theorem tk_its (hL : listedB r = true) {lt : List Int} (h : ltB r lt = true) {n : Int} (hn : n ∈ nums r) : ∀ y ∈ (tkV r lt n).its, y.1 ∈ nums r := listed_in hL (tk_mem hL h hn).1
theorem iss_kind {x : Iss} (h : issB x = true) : 1 ≤ x.k ∧ x.k ≤ 3 ∧ x.its.length ≤ 8 ∧ (x.k ≠ 1 → x.its = []) := by
  simp only [issB, headB, Bool.and_eq_true, inR, decide_eq_true_eq] at h
  obtain ⟨⟨⟨⟨-, h1⟩, h2⟩, -⟩, -⟩ := h
  refine ⟨by omega, by omega, ?_, fun hk => ?_⟩
  · split at h2
    · simp only [Bool.and_eq_true, decide_eq_true_eq] at h2; omega
    · simp only [Bool.and_eq_true, decide_eq_true_eq] at h2; omega
  · rw [if_neg hk] at h2
    simp only [Bool.and_eq_true, decide_eq_true_eq] at h2
    exact List.length_eq_zero_iff.1 h2.2

/-! ### How deep a drawing is. -/
def dpN (r : List Iss) (n : Int) : Nat := (Dv r ((nums r).length + 1) n).toNat
theorem dpN_bd (ho : openV r = 0) {n : Int} (hn : n ∈ nums r) : 1 ≤ dpN r n ∧ dpN r n ≤ 6 := by
  have hL := open_listed ho
  have h0 := left_none ho
  obtain ⟨h1, h2⟩ := dp_Dv hL h0 hn
  have hb := (DInv.run r (nums r).length).bd _ h1
  have h6 : dpG (dRun r (nums r).length).1 n ≤ 6 := by
    unfold openV at ho
    rw [if_pos hL, if_neg (by omega)] at ho
    split at ho
    · cases ho
    · rename_i h3
      exact Int.not_lt.1 fun h4 => h3 ⟨_, h1, h4⟩
  unfold dpN
  rw [h2]
  simp only at hb
  omega
theorem dpN_lt (ho : openV r = 0) {n c : Int} (hn : n ∈ nums r) (hc : c ∈ C r n) : dpN r c < dpN r n := by
  have hL := open_listed ho
  have h0 := left_none ho
  have hcn : c ∈ nums r := C_in (fun x hx => listed_in hL hx) hc
  obtain ⟨h1, h2⟩ := dp_Dv hL h0 hcn
  have hd := DInv.run r (nums r).length
  have hb := hd.bd _ h1
  have hl := hd.len
  have e := AInv.run (ord_of hL) (fun x hx => listed_in hL hx) _ _ h1 (nums r).length (by simp only at hb ⊢; omega)
  have g1 := Dv_ch (r := r) (nums r).length n hc
  have g2 := (Dv_bd r ((nums r).length + 1) n).1
  have g3 := (Dv_bd r ((nums r).length + 1) c).1
  simp only at e
  unfold dpN
  omega
theorem its_C (hL : listedB r = true) {lt : List Int} (h : ltB r lt = true) {n : Int} (hn : n ∈ nums r) {y : Int × Int} (hy : y ∈ (tkV r lt n).its) : y.1 ∈ C r n := by
  obtain ⟨h1, h2⟩ := tk_mem hL h hn
  exact List.mem_flatMap.2 ⟨_, List.mem_filter.2 ⟨h1, by simpa using h2⟩, List.mem_map.2 ⟨y, hy, rfl⟩⟩
end

/-! ### Parts. -/
def addW (a b : Int) : Int := IntKind.i64.wrap (a + b)
def mulW (a b : Int) : Int := IntKind.i64.wrap (a * b)
/-- Parts by drawings, as the reference reckons. -/
def paV (T : Int → Iss) : Nat → Int → Int → (Int → Int) → (Int → Int)
  | 0, _, _, g => g
  | k + 1, d, m, g => if 1 < (T d).k then (fun n => if n = d then addW (g d) m else g n) else (T d).its.foldl (fun g y => paV T k y.1 (mulW m y.2) g) g
/-- The same, in a list of drawings and counts. -/
def mpG (l : List (Int × Int)) (n : Int) : Int := dpG l n
def mpPut (n v : Int) : List (Int × Int) → List (Int × Int)
  | [] => [(n, v)]
  | p :: l => if p.1 = n then (n, v) :: l else p :: mpPut n v l
def paM (T : Int → Iss) : Nat → Int → Int → List (Int × Int) → List (Int × Int)
  | 0, _, _, l => l
  | k + 1, d, m, l => (T d).its.foldl (fun l y => paM T k y.1 (mulW m y.2) l) (if (T d).k = 1 then l else mpPut d (addW (mpG l d) m) l)
theorem mpG_put (n v : Int) : ∀ (l : List (Int × Int)) (x : Int), mpG (mpPut n v l) x = if x = n then v else mpG l x
  | [], x => by
    simp only [mpPut, mpG, dpG, dpLk]
    by_cases e : x = n
    · rw [if_pos e, if_pos e]; rfl
    · rw [if_neg e, if_neg e]
  | p :: l, x => by
    have ih := mpG_put n v l x
    simp only [mpG, dpG] at ih ⊢
    simp only [mpPut]
    by_cases e : p.1 = n
    · rw [if_pos e]
      simp only [dpLk]
      by_cases e2 : x = n
      · rw [if_pos e2, if_pos e2]; rfl
      · rw [if_neg e2, if_neg e2, if_neg (by rw [e]; exact e2)]
    · rw [if_neg e]
      simp only [dpLk]
      by_cases e2 : x = p.1
      · rw [if_pos e2, if_pos e2, if_neg (by rintro rfl; exact e e2.symm)]
      · rw [if_neg e2, if_neg e2]; exact ih
theorem paM_eq {T : Int → Iss} {D : List Int} (hk : ∀ d ∈ D, 1 ≤ (T d).k ∧ ((T d).k ≠ 1 → (T d).its = [])) (hin : ∀ d ∈ D, ∀ y ∈ (T d).its, y.1 ∈ D) : ∀ (k : Nat) (d m : Int) (l : List (Int × Int)), d ∈ D → mpG (paM T k d m l) = paV T k d m (mpG l)
  | 0, d, m, l, _ => rfl
  | k + 1, d, m, l, hd => by
    obtain ⟨h1, h2⟩ := hk d hd
    simp only [paM, paV]
    by_cases e : (T d).k = 1
    · rw [if_pos e, if_neg (by omega)]
      have key : ∀ (its : List (Int × Int)) (l : List (Int × Int)), (∀ y ∈ its, y.1 ∈ D) → mpG (its.foldl (fun l y => paM T k y.1 (mulW m y.2) l) l) = its.foldl (fun g y => paV T k y.1 (mulW m y.2) g) (mpG l) := by
        intro its
        induction its with
        | nil => intro l _; rfl
        | cons y its ih =>
          intro l hy
          simp only [List.foldl_cons]
          rw [ih _ fun z hz => hy z (List.mem_cons_of_mem _ hz), paM_eq hk hin k y.1 _ l (hy y (List.mem_cons_self ..))]
      exact key _ l (hin d hd)
    · rw [if_neg e, if_pos (by omega), h2 e, List.foldl_nil]
      funext n
      rw [mpG_put]

/-- The parts, in order. -/
def ptN (l : List Int) (g : Int → Int) (i : Nat) : List (Int × Int) := ((l.take i).filter fun n => decide (0 < g n)).map fun n => (n, g n)
theorem ptN_succ {l : List Int} {g : Int → Int} {i : Nat} (h : i < l.length) : ptN l g (i + 1) = if 0 < g l[i] then ptN l g i ++ [(l[i], g l[i])] else ptN l g i := by
  rw [ptN, List.take_succ_eq_append_getElem h, List.filter_append, List.map_append]
  split
  · rename_i e; rw [List.filter_cons_of_pos (by simpa using e)]; rfl
  · rename_i e; rw [List.filter_cons_of_neg (by simpa using e), List.filter_nil, List.map_nil, List.append_nil]; rfl
theorem ptN_len (l : List Int) (g : Int → Int) (i : Nat) : (ptN l g i).length ≤ i := by
  simp only [ptN, List.length_map]
  exact Nat.le_trans (List.length_filter_le _ _) (by simp; omega)
def exV (r : List Iss) (lt : List Int) (n : Int) : List (Int × Int) × Int := if askV r lt n = 0 then (ptN (nums r) (paV (tkV r lt) 6 n 1 fun _ => 0) (nums r).length, 0) else ([], askV r lt n)
theorem ask_0 {r : List Iss} {lt : List Int} {n : Int} (h : askV r lt n = 0) : openV r = 0 ∧ ltB r lt = true ∧ n ∈ nums r := by
  unfold askV at h
  split at h
  · rename_i e; exact absurd h e
  · rename_i e
    split at h
    · cases h
    · rename_i e2
      split at h
      · rename_i e3; exact ⟨by simpa using e, by simpa using e2, e3⟩
      · cases h

/-! ### Trees. -/
structure Brn where
  dep : Int
  d : Int
  l : Int
  c : Int
  deriving DecidableEq, Inhabited
def bra (b : Brn) : List AV := [.int .i64 b.dep, .int .i64 b.d, .int .i64 b.l, .int .i64 b.c]
def trV (T : Int → Iss) : Nat → Int → Int → Int → List Brn
  | 0, _, _, _ => []
  | k + 1, dep, d, c => ⟨dep, d, (T d).l, c⟩ :: (T d).its.flatMap fun y => trV T k (dep + 1) y.1 y.2
def brN (T : Int → Iss) : Nat → Int → Nat
  | 0, _ => 0
  | k + 1, d => (T d).its.foldl (fun a y => a + brN T k y.1) 1
theorem trV_brN {T : Int → Iss} : ∀ (k : Nat) (dep d c : Int), (trV T k dep d c).length = brN T k d
  | 0, _, _, _ => rfl
  | k + 1, dep, d, c => by
    have key : ∀ (its : List (Int × Int)) (a : Nat), its.foldl (fun a y => a + brN T k y.1) a = a + (its.flatMap fun y => trV T k (dep + 1) y.1 y.2).length := by
      intro its
      induction its with
      | nil => intro a; simp
      | cons y its ih =>
        intro a
        rw [List.foldl_cons, ih, List.flatMap_cons, List.length_append, trV_brN k]
        omega
    rw [brN, key]
    simp only [trV, List.length_cons]
    omega
/-- The program stops where there are too many. -/
def grV (T : Int → Iss) : Nat → Int → Int → Int → List Brn → List Brn
  | 0, _, _, _, l => l
  | k + 1, dep, d, c, l => if 500 < l.length then l else (T d).its.foldl (fun l y => grV T k (dep + 1) y.1 y.2 l) (l ++ [⟨dep, d, (T d).l, c⟩])
theorem trV_len {T : Int → Iss} {D : List Int} (h8 : ∀ d ∈ D, (T d).its.length ≤ 8) (hin : ∀ d ∈ D, ∀ y ∈ (T d).its, y.1 ∈ D) : ∀ (k : Nat) (dep d c : Int), d ∈ D → (trV T k dep d c).length ≤ 9 ^ k
  | 0, _, _, _, _ => by simp [trV]
  | k + 1, dep, d, c, hd => by
    have key : ∀ its : List (Int × Int), (∀ y ∈ its, y.1 ∈ D) → (its.flatMap fun y => trV T k (dep + 1) y.1 y.2).length ≤ its.length * 9 ^ k := by
      intro its
      induction its with
      | nil => intro _; simp
      | cons y its ih =>
        intro hy
        have h1 := ih fun z hz => hy z (List.mem_cons_of_mem _ hz)
        have h2 := trV_len h8 hin k (dep + 1) y.1 y.2 (hy y (List.mem_cons_self ..))
        simp only [List.flatMap_cons, List.length_append, List.length_cons, Nat.add_mul, Nat.one_mul]
        omega
    have h1 := key _ (hin d hd)
    have h2 : (T d).its.length * 9 ^ k ≤ 8 * 9 ^ k := Nat.mul_le_mul_right _ (h8 d hd)
    have h3 : 0 < 9 ^ k := Nat.pow_pos (by omega)
    simp only [trV, List.length_cons, Nat.pow_succ]
    omega
theorem grV_le {T : Int → Iss} : ∀ (k : Nat) (dep d c : Int) (l : List Brn), l.length ≤ (grV T k dep d c l).length
  | 0, _, _, _, _ => Nat.le_refl _
  | k + 1, dep, d, c, l => by
    simp only [grV]
    split
    · exact Nat.le_refl _
    · have key : ∀ (its : List (Int × Int)) (l : List Brn), l.length ≤ (its.foldl (fun l y => grV T k (dep + 1) y.1 y.2 l) l).length := by
        intro its
        induction its with
        | nil => intro l; exact Nat.le_refl _
        | cons y its ih => intro l; exact Nat.le_trans (grV_le k _ _ _ _) (ih _)
      refine Nat.le_trans ?_ (key _ _)
      simp
theorem grV_big {T : Int → Iss} : ∀ (k : Nat) (dep d c : Int) (l : List Brn), 500 < l.length → grV T k dep d c l = l
  | 0, _, _, _, _, _ => rfl
  | k + 1, dep, d, c, l, h => by simp only [grV, if_pos h]
theorem grV_501 {T : Int → Iss} : ∀ (k : Nat) (dep d c : Int) (l : List Brn), l.length ≤ 501 → (grV T k dep d c l).length ≤ 501
  | 0, _, _, _, _, h => h
  | k + 1, dep, d, c, l, h => by
    simp only [grV]
    split
    · exact h
    · have key : ∀ (its : List (Int × Int)) (l : List Brn), l.length ≤ 501 → (its.foldl (fun l y => grV T k (dep + 1) y.1 y.2 l) l).length ≤ 501 := by
        intro its
        induction its with
        | nil => intro l h; exact h
        | cons y its ih => intro l h; exact ih _ (grV_501 k _ _ _ _ h)
      exact key _ _ (by simp; omega)
theorem grV_eq {T : Int → Iss} : ∀ (k : Nat) (dep d c : Int) (l : List Brn), ((l ++ trV T k dep d c).length ≤ 500 → grV T k dep d c l = l ++ trV T k dep d c) ∧ (500 < (l ++ trV T k dep d c).length → 500 < (grV T k dep d c l).length)
  | 0, dep, d, c, l => by simp [grV, trV]
  | k + 1, dep, d, c, l => by
    simp only [grV]
    by_cases h : 500 < l.length
    · rw [if_pos h]
      exact ⟨fun h2 => by simp at h2; omega, fun _ => h⟩
    · rw [if_neg h]
      have key : ∀ (its : List (Int × Int)) (l : List Brn), ((l ++ its.flatMap fun y => trV T k (dep + 1) y.1 y.2).length ≤ 500 → its.foldl (fun l y => grV T k (dep + 1) y.1 y.2 l) l = l ++ its.flatMap fun y => trV T k (dep + 1) y.1 y.2) ∧
          (500 < (l ++ its.flatMap fun y => trV T k (dep + 1) y.1 y.2).length → 500 < (its.foldl (fun l y => grV T k (dep + 1) y.1 y.2 l) l).length) := by
        intro its
        induction its with
        | nil => intro l; simp
        | cons y its ih =>
          intro l
          obtain ⟨g1, g2⟩ := grV_eq (T := T) k (dep + 1) y.1 y.2 l
          obtain ⟨i1, i2⟩ := ih (grV T k (dep + 1) y.1 y.2 l)
          simp only [List.foldl_cons, List.flatMap_cons]
          rw [← List.append_assoc]
          by_cases c1 : (l ++ trV T k (dep + 1) y.1 y.2).length ≤ 500
          · rw [g1 c1] at i1 i2 ⊢
            exact ⟨i1, i2⟩
          · have c2 := g2 (by omega)
            refine ⟨fun h2 => by simp only [List.length_append] at h2 c1; omega, fun _ => i2 ?_⟩
            simp only [List.length_append]; omega
      have := key (T d).its (l ++ [⟨dep, d, (T d).l, c⟩])
      simp only [trV]
      rw [List.append_assoc, List.singleton_append] at this
      exact this
end Go.Proofs.YtdpmioiamcgfkaaDoor

/-! Parts and trees: what the reference's functions compute: letters, the error, the issue that is taken, branches, trees. -/
namespace Go.Proofs.YtdpmioiamcgfkaaDoor
open Go.RowKit

section
variable {G : Nat → Option (List AV)}

theorem ia_pure (l : List Int) : (AV.vsl (l.map ia)).pure = true := by simp [AV.pure]

theorem letters_pc (r : List Iss) (lt : List Int) (h : Wf r) (hL : listedB r = true) : PC Tryd.prog G 110 [rega r, .vsl (lt.map ia)] (.bool (ltB r lt)) := by
  (refine pc_ref02_Letters (Nat.le_of_ble_eq_true rfl) fun R hG hrd => GO_AR mixed 1000 ?_; subst hG)
  have hne : r ≠ [] := by have := listed_60 hL; intro e; subst e; simp at this
  simp -implicitDefEqProofs [rc_ref02_Letters, rr_ref02_Letters, rega]
  (first | refine CallK.of (numbers_pc r h.1.1 hne) (by simp) ?_ | refine CallD.of (numbers_pc r h.1.1 hne) (by simp) ?_)
  have hl := listed_20 hL
  by_cases q : lt.length = (nums r).length
  case neg =>
    have q' : ¬ (lt.length : Int) = (nums r).length := by omega
    simp -implicitDefEqProofs [q', show ltB r lt = false by simp [ltB, q]]
  simp -implicitDefEqProofs [q]
  refine AR_for (fun i => ⟨[(6, .int .i64 i), (5, .vsl ((nums r).map ia)), (1, .vsl (lt.map ia)), (2, .ptr 2 0)], [(2, .box [.vsl (r.map isa)])]⟩) (fun i => ∀ j, j < i → inR (lt.getD j 0) 1 (lastV r ((nums r).getD j 0)) = true) (nums r).length (by (first | exact Weak.tm (by simp [lk]) | exact Weak.sub (by simp [lk, keptA, AV.keys]) (by simp [lk, keptO, keptA, AV.keys]))) (by simp) ?_ ?_
  · intro i hi he
    refine GO_AR mixed 1000 ?_
    have w1 : IntKind.i64.wrap ((i : Int) + 1) = ((i + 1 : Nat) : Int) := wrapI (by omega) (by omega)
    have hi2 : i < lt.length := by omega
    have e1 : lt.getD i 0 = lt[i] := by simp [List.getD, hi2]
    have e2 : (nums r).getD i 0 = (nums r)[i] := by simp [List.getD, hi]
    simp -implicitDefEqProofs [hi, hi2, ia]
    (first | refine CallK.of (lastOf_pc r (nums r)[i] h.1.1) (by simp) ?_ | refine CallD.of (lastOf_pc r (nums r)[i] h.1.1) (by simp) ?_)
    simp -implicitDefEqProofs []
    (first | refine CallK.of (within_pc _ _ _) (by simp) ?_ | refine CallD.of (within_pc _ _ _) (by simp) ?_)
    simp -implicitDefEqProofs []
    refine ⟨rfl, ?_⟩
    cases p : inR lt[i] 1 (lastV r (nums r)[i])
    · simp -implicitDefEqProofs []
      refine GO_ret mixed 1000 ?_
      have no : ltB r lt = false := by
        cases hI : ltB r lt
        · rfl
        · simp only [ltB, Bool.and_eq_true] at hI
          have := range_all.1 hI.2 i hi
          rw [e1, e2, p] at this; cases this
      simp -implicitDefEqProofs [no]
    · simp -implicitDefEqProofs [w1]
      refine ⟨(by (first | exact Weak.tm (by simp [lk]) | exact Weak.sub (by simp [lk, keptA, AV.keys]) (by simp [lk, keptO, keptA, AV.keys]))), fun j hj => ?_⟩
      by_cases e : j = i
      · subst e; simp only [List.getD_eq_getElem?_getD] at e1 e2 ⊢; rw [e1, e2]; exact p
      · exact he j (by omega)
  · intro he
    refine GO_AR mixed 1000 ?_
    have yes : ltB r lt = true := by simp only [ltB, Bool.and_eq_true, decide_eq_true_eq]; exact ⟨q, range_all.2 he⟩
    simp -implicitDefEqProofs []
    refine GO_ret mixed 1000 ?_
    simp -implicitDefEqProofs [yes]

theorem asked_pc (r : List Iss) (lt : List Int) (n : Int) (h : Wf r) : PC Tryd.prog G 78 [rega r, .vsl (lt.map ia), .int .i64 n] (.int .i64 (askV r lt n)) := by
  (refine pc_ref02_asked (Nat.le_of_ble_eq_true rfl) fun R hG hrd => GO_AR mixed 1000 ?_; subst hG)
  simp -implicitDefEqProofs [rc_ref02_asked, rr_ref02_asked, rega]
  (first | refine CallK.of (checkR_pc r h) (by simp) ?_ | refine CallD.of (checkR_pc r h) (by simp) ?_)
  rw [← open_chk]
  by_cases e : openV r = 0
  case neg => simp -implicitDefEqProofs [e, askV]
  have hL := open_listed e
  have hne : r ≠ [] := by have := listed_60 hL; intro e; subst e; simp at this
  simp -implicitDefEqProofs [e]
  (first | refine CallK.of (letters_pc r lt h hL) (by simp) ?_ | refine CallD.of (letters_pc r lt h hL) (by simp) ?_)
  cases q : ltB r lt
  · simp -implicitDefEqProofs [askV, e, q]
  simp -implicitDefEqProofs []
  (first | refine CallK.of (numbers_pc r h.1.1 hne) (by simp) ?_ | refine CallD.of (numbers_pc r h.1.1 hne) (by simp) ?_)
  simp -implicitDefEqProofs []
  (first | refine CallK.of (index_pc (nums r) n (nums_sml h.1.1)) (by simp) ?_ | refine CallD.of (index_pc (nums r) n (nums_sml h.1.1)) (by simp) ?_)
  by_cases c : n ∈ nums r
  · have c2 : ¬ idx (nums r) n < 0 := fun hh => (idx_neg.1 hh) c
    simp -implicitDefEqProofs [c2, askV, e, q, c]
  · simp -implicitDefEqProofs [idx_neg.2 c, askV, e, q, c]

theorem taken_pcR (r : List Iss) (lt : List Int) (n : Int) (h : Wf r) (hL : listedB r = true) (hlt : ltB r lt = true) (hn : n ∈ nums r) : PC Tryd.prog G 112 [rega r, .vsl (lt.map ia), .int .i64 n] (.agg (isa (tkV r lt n))) := by
  (refine pc_ref02_Taken (Nat.le_of_ble_eq_true rfl) fun R hG hrd => GO_AR mixed 1000 ?_; subst hG)
  have hne : r ≠ [] := by have := listed_60 hL; intro e; subst e; simp at this
  obtain ⟨h1, h2⟩ := nums_idx hn
  have hl := ltB_len hlt
  have hi : (nums r).idxOf n < lt.length := by omega
  have e1 : idx (nums r) n = ((nums r).idxOf n : Nat) := by rw [idx, if_pos hn]
  have e2 : lt[(nums r).idxOf n] = ltOf r lt n := by simp [ltOf, List.getD, hi]
  have e3 := tk_some hL hlt hn
  simp -implicitDefEqProofs [rc_ref02_Taken, rr_ref02_Taken, rega]
  (first | refine CallK.of (numbers_pc r h.1.1 hne) (by simp) ?_ | refine CallD.of (numbers_pc r h.1.1 hne) (by simp) ?_)
  simp -implicitDefEqProofs []
  (first | refine CallK.of (index_pc (nums r) n (nums_sml h.1.1)) (by simp) ?_ | refine CallD.of (index_pc (nums r) n (nums_sml h.1.1)) (by simp) ?_)
  simp -implicitDefEqProofs [e1, hi, ia, e2]
  (first | refine CallK.of (find_pc r n (ltOf r lt n) h.1.1) (by simp) ?_ | refine CallD.of (find_pc r n (ltOf r lt n) h.1.1) (by simp) ?_)
  simp -implicitDefEqProofs [e3, fndA, isa]
  rfl

theorem dp_pos {r : List Iss} (ho : openV r = 0) {n : Int} (hn : n ∈ nums r) (h : dpN r n ≤ 0) : False := by have := dpN_bd ho hn; omega
theorem dp_its {r : List Iss} {lt : List Int} (ho : openV r = 0) (hlt : ltB r lt = true) {n : Int} (hn : n ∈ nums r) {k : Nat} (hk : dpN r n ≤ k + 1) {y : Int × Int} (hy : y ∈ (tkV r lt n).its) : y.1 ∈ nums r ∧ dpN r y.1 ≤ k := by
  have hL := open_listed ho
  have := dpN_lt ho hn (its_C hL hlt hn hy)
  exact ⟨tk_its hL hlt hn y hy, by omega⟩
theorem tk_8 {r : List Iss} {lt : List Int} (ho : openV r = 0) (hlt : ltB r lt = true) : ∀ d ∈ nums r, (tkV r lt d).its.length ≤ 8 := fun d hd =>
  (iss_kind (listed_iss (open_listed ho) (tk_mem (open_listed ho) hlt hd).1)).2.2.1
theorem pow_9 {k : Nat} (h : k ≤ 6) : 9 ^ k ≤ 531441 := by
  have := Nat.pow_le_pow_right (n := 9) (by omega) h
  simpa using this
theorem brN_bd {r : List Iss} {lt : List Int} (ho : openV r = 0) (hlt : ltB r lt = true) {k : Nat} (hk : k ≤ 6) {d : Int} (hd : d ∈ nums r) : brN (tkV r lt) k d ≤ 531441 := by
  have := trV_len (T := tkV r lt) (D := nums r) (tk_8 ho hlt) (fun d hd => tk_its (open_listed ho) hlt hd) k 0 d 1 hd
  rw [trV_brN] at this
  exact Nat.le_trans this (pow_9 hk)

theorem branches_pc (r : List Iss) (lt : List Int) (h : Wf r) (ho : openV r = 0) (hlt : ltB r lt = true) : ∀ (k : Nat) (n : Int), k ≤ 6 → n ∈ nums r → dpN r n ≤ k → PC Tryd.prog G 81 [rega r, .vsl (lt.map ia), .int .i64 n] (.int .i64 (brN (tkV r lt) k n : Nat))
  | 0, n, _, hn, hd => (dp_pos ho hn hd).elim
  | k + 1, n, hk, hn, hd => by
    have hL := open_listed ho
    have hx := tk_mem hL hlt hn
    have hsz := h.1.2 _ hx.1
    have h8 := tk_8 ho hlt n hn
    have hbd := brN_bd ho hlt hk hn
    have hrec := fun y (hy : y ∈ (tkV r lt n).its) => branches_pc r lt h ho hlt k y.1 (by omega) (dp_its ho hlt hn hd hy).1 (dp_its ho hlt hn hd hy).2
    have bds := fun y (hy : y ∈ (tkV r lt n).its) => brN_bd (k := k) ho hlt (by omega) (dp_its ho hlt hn hd hy).1
    have ht := taken_pcR (G := G) r lt n h hL hlt hn
    rw [brN] at hbd ⊢
    generalize tkV r lt n = x at *
    (refine pc_ref02_branches (Nat.le_of_ble_eq_true rfl) fun R hG hrd => GO_AR mixed 1000 ?_; subst hG)
    simp -implicitDefEqProofs [rc_ref02_branches, rr_ref02_branches, rega]
    (first | refine CallK.of (ht) (by simp) ?_ | refine CallD.of (ht) (by simp) ?_)
    simp -implicitDefEqProofs [isa]
    refine AR_for (fun i => ⟨[(9, .int .i64 i), (8, .int .i64 ((x.its.take i).foldl (fun a y => a + brN (tkV r lt) k y.1) 1 : Nat)), (1, .vsl (lt.map ia)), (3, .ptr 3 0), (7, .ptr 7 0)], [(3, .box [.vsl (r.map isa)]), (7, .box (isa x))]⟩) (fun i => (x.its.take i).foldl (fun a y => a + brN (tkV r lt) k y.1) 1 ≤ 1 + i * 531441) x.its.length (by (first | exact Weak.tm (by simp [lk, isa]) | exact Weak.sub (by simp [lk, keptA, AV.keys, isa]) (by simp [lk, keptO, keptA, AV.keys, isa]))) (by simp) ?_ ?_
    · intro i hi he
      refine GO_AR mixed 1000 ?_
      have w1 : IntKind.i64.wrap ((i : Int) + 1) = ((i + 1 : Nat) : Int) := wrapI (by omega) (by omega)
      have ft := fold_take (fun a (y : Int × Int) => a + brN (tkV r lt) k y.1) 1 x.its i hi
      have hb := bds x.its[i] (List.getElem_mem hi)
      simp -implicitDefEqProofs [hi, isa, ita]
      (first | refine CallK.of (hrec x.its[i] (List.getElem_mem hi)) (by simp) ?_ | refine CallD.of (hrec x.its[i] (List.getElem_mem hi)) (by simp) ?_)
      generalize (x.its.take i).foldl (fun a y => a + brN (tkV r lt) k y.1) 1 = a at *
      have w2 : IntKind.i64.wrap ((a : Int) + (brN (tkV r lt) k x.its[i].1 : Nat)) = ((a + brN (tkV r lt) k x.its[i].1 : Nat) : Int) := by rw [Int.natCast_add]; exact wrapI (by omega) (by omega)
      simp -implicitDefEqProofs [w1, w2]
      refine ⟨rfl, ?_, ?_⟩
      · exact Weak.sub (by simp [lk, keptA, AV.keys, ft]) (by simp [lk, keptO, keptA, AV.keys, isa])
      · rw [ft]; omega
    · intro _
      refine GO_AR mixed 1000 ?_
      simp -implicitDefEqProofs [isa]
      refine GO_ret mixed 1000 ?_
      simp -implicitDefEqProofs []

theorem bra_all (l : List Brn) : (l.map bra).all (fun r => r.length == 4) = true ∧ (l.map bra).all (fun r => r.all AV.one) = true ∧ (l.map bra).all (fun r => r.all AV.pure) = true := by
  refine ⟨by simp [bra], by simp [bra, AV.one], by simp [bra, AV.pure]⟩
theorem bra_kept (l : List Brn) (o : List (Nat × AObj)) : keptO o (.row 4 (l.map bra)) = true := by
  simp only [keptO, List.all_eq_true, List.mem_map]
  rintro x ⟨y, -, rfl⟩ v hv
  simp only [bra, List.mem_cons, List.not_mem_nil, or_false] at hv
  rcases hv with rfl | rfl | rfl | rfl <;> simp [keptA, AV.keys]
/-- The tree of a drawing with so many of its items. -/
def trL (T : Int → Iss) (k : Nat) (dep d c : Int) (its : List (Int × Int)) (l : Int) (i : Nat) : List Brn := ⟨dep, d, l, c⟩ :: (its.take i).flatMap fun y => trV T k (dep + 1) y.1 y.2
theorem trL_succ {T : Int → Iss} {k : Nat} {dep d c : Int} {its : List (Int × Int)} {l : Int} {i : Nat} (h : i < its.length) : trL T k dep d c its l (i + 1) = trL T k dep d c its l i ++ trV T k (dep + 1) its[i].1 its[i].2 := by
  simp only [trL]
  rw [List.take_succ_eq_append_getElem h, List.flatMap_append]
  simp
theorem trL_len {T : Int → Iss} {k : Nat} {dep d c : Int} {its : List (Int × Int)} {l : Int} (hb : ∀ y ∈ its, brN T k y.1 ≤ 531441) : ∀ i, i ≤ its.length → (trL T k dep d c its l i).length ≤ 1 + i * 531441
  | 0, _ => by simp [trL]
  | i + 1, hi => by
    have hlt : i < its.length := by omega
    have := trL_len hb (l := l) (dep := dep) (d := d) (c := c) i (by omega)
    rw [trL_succ hlt, List.length_append, trV_brN]
    have := hb its[i] (List.getElem_mem hlt)
    omega

theorem trV_ne {T : Int → Iss} {k : Nat} (hk : 0 < k) (dep d c : Int) : ¬ trV T k dep d c = [] := by
  cases k with
  | zero => omega
  | succ k => simp [trV]
theorem tree_pc (r : List Iss) (lt : List Int) (h : Wf r) (ho : openV r = 0) (hlt : ltB r lt = true) : ∀ (k : Nat) (n dep c : Int), k ≤ 6 → n ∈ nums r → dpN r n ≤ k → 0 ≤ dep → dep + k ≤ 1000 →
    PC Tryd.prog G 82 [rega r, .vsl (lt.map ia), .int .i64 n, .int .i64 dep, .int .i64 c] (.vsl ((trV (tkV r lt) k dep n c).map bra))
  | 0, n, _, _, _, hn, hd, _, _ => (dp_pos ho hn hd).elim
  | k + 1, n, dep, c, hk, hn, hd, hd0, hd1 => by
    have hL := open_listed ho
    have hx := tk_mem hL hlt hn
    have hsz := h.1.2 _ hx.1
    have h8 := tk_8 ho hlt n hn
    have wd : IntKind.i64.wrap (dep + 1) = dep + 1 := wrapI (by omega) (by omega)
    have hrec := fun y (hy : y ∈ (tkV r lt n).its) => tree_pc r lt h ho hlt k y.1 (dep + 1) y.2 (by omega) (dp_its ho hlt hn hd hy).1 (dp_its ho hlt hn hd hy).2 (by omega) (by omega)
    have bds := fun y (hy : y ∈ (tkV r lt n).its) => brN_bd (k := k) ho hlt (by omega) (dp_its ho hlt hn hd hy).1
    have hkp := fun y (hy : y ∈ (tkV r lt n).its) => Nat.lt_of_lt_of_le (dpN_bd ho (dp_its ho hlt hn hd hy).1).1 (dp_its ho hlt hn hd hy).2
    have ht := taken_pcR (G := G) r lt n h hL hlt hn
    have ev : trV (tkV r lt) (k + 1) dep n c = trL (tkV r lt) k dep n c (tkV r lt n).its (tkV r lt n).l (tkV r lt n).its.length := by rw [trL, List.take_length]; rfl
    rw [ev]
    have ll := trL_len (dep := dep) (d := n) (c := c) (l := (tkV r lt n).l) bds
    have ls := fun i (hi : i < (tkV r lt n).its.length) => trL_succ (T := tkV r lt) (k := k) (dep := dep) (d := n) (c := c) (l := (tkV r lt n).l) hi
    have l0 : trL (tkV r lt) k dep n c (tkV r lt n).its (tkV r lt n).l 0 = [⟨dep, n, (tkV r lt n).l, c⟩] := by simp [trL]
    generalize tkV r lt n = x at *
    (refine pc_ref02_tree (Nat.le_of_ble_eq_true rfl) fun R hG hrd => GO_AR mixed 1000 ?_; subst hG)
    simp -implicitDefEqProofs [rc_ref02_tree, rr_ref02_tree, rega]
    (first | refine CallK.of (ht) (by simp) ?_ | refine CallD.of (ht) (by simp) ?_)
    simp -implicitDefEqProofs [isa]
    refine AR_for (fun i => ⟨[(13, .int .i64 i), (12, .osl 24 (trL (tkV r lt) k dep n c x.its x.l i).length), (1, .vsl (lt.map ia)), (3, .int .i64 dep), (5, .ptr 5 0), (11, .ptr 11 0)], [(5, .box [.vsl (r.map isa)]), (11, .box (isa x)), (24, .row 4 ((trL (tkV r lt) k dep n c x.its x.l i).map bra))]⟩) (fun _ => True) x.its.length (by rw [l0]; (first | exact Weak.tm (by simp [lk, isa, bra]) | exact Weak.sub (by simp [lk, keptA, AV.keys, isa, bra]) (by simp [lk, keptO, keptA, AV.keys, isa, bra]))) trivial ?_ ?_
    · intro i hi _
      refine GO_AR mixed 1000 ?_
      have w1 : IntKind.i64.wrap ((i : Int) + 1) = ((i + 1 : Nat) : Int) := wrapI (by omega) (by omega)
      have hb := bds x.its[i] (List.getElem_mem hi)
      have hl := ll i (by omega)
      have hs := ls i hi
      have hc := trV_brN (T := tkV r lt) k (dep + 1) x.its[i].1 x.its[i].2
      obtain ⟨b1, b2, b3⟩ := bra_all (trV (tkV r lt) k (dep + 1) x.its[i].1 x.its[i].2)
      have bb : ((trL (tkV r lt) k dep n c x.its x.l i).length + (trV (tkV r lt) k (dep + 1) x.its[i].1 x.its[i].2).length) * 32 ≤ 70368744177664 := by omega
      simp -implicitDefEqProofs [hi, isa, ita, wd]
      (first | refine CallK.of (hrec x.its[i] (List.getElem_mem hi)) (by simp) ?_ | refine CallD.of (hrec x.its[i] (List.getElem_mem hi)) (by simp) ?_)
      have hne := trV_ne (T := tkV r lt) (hkp _ (List.getElem_mem hi)) (dep + 1) x.its[i].1 x.its[i].2
      simp -implicitDefEqProofs [w1, b1, b2, b3, bb, hne]
      refine ⟨rfl, ?_⟩
      refine Weak.sub (by simp [lk, keptA, AV.keys, hs]) ?_
      simp only [List.mem_cons, List.not_mem_nil, or_false, forall_eq_or_imp, forall_eq, bra_kept, and_true]
      simp [lk, keptO, keptA, AV.keys, isa, hs]
    · intro _
      refine GO_AR mixed 1000 ?_
      simp -implicitDefEqProofs [isa]
      refine GO_ret mixed 1000 ?_
      have pu := (bra_all (trL (tkV r lt) k dep n c x.its x.l x.its.length)).2.2
      simp -implicitDefEqProofs [pu]
end
end Go.Proofs.YtdpmioiamcgfkaaDoor

/-! Parts: what the reference's functions compute. -/
namespace Go.Proofs.YtdpmioiamcgfkaaDoor
open Go.RowKit

theorem GO0 {P : Program} {R : Run} {c : RCode} {ks : List KF} {Φ : Exit → St → Prop} {st : St} (h : AR P R c st (RetP P R ks Φ)) : GO P R 0 (.run c) ks Φ st := h

theorem ren_rowF (ρ : Nat → Nat) (l : List Int) (g : Int → Int) : (AObj.row 1 (rowF l g)).ren ρ = .row 1 (rowF l g) := by
  simp only [AObj.ren, rowF, List.map_map]
  congr 2
  funext p; simp [AV.ren]
theorem frz_rowF (ok : Nat → Bool) (st : St) (l : List Int) (g : Int → Int) : frzO ok st (.row 1 (rowF l g)) = .row 1 (rowF l g) := by
  simp only [frzO, rowF, List.map_map]
  congr 2
  funext p; simp [frzA, frz, AV.keys]
theorem kept_rowF (o : List (Nat × AObj)) (l : List Int) (g : Int → Int) : keptO o (.row 1 (rowF l g)) = true := by
  simp only [keptO, List.all_eq_true, rowF, List.mem_map]
  rintro x ⟨y, -, rfl⟩ v hv
  simp only [List.mem_cons, List.not_mem_nil, or_false] at hv
  subst hv; simp [keptA, AV.keys]

section
variable {G : Nat → Option (List AV)}

theorem parts_pb (r : List Iss) (lt : List Int) (h : Wf r) (ho : openV r = 0) (hlt : ltB r lt = true) : ∀ (k : Nat) (n m : Int) (g : Int → Int), n ∈ nums r → dpN r n ≤ k →
    PB Tryd.prog G 111 [(1000, .row 1 (rowF (nums r) g))] [rega r, .vsl (lt.map ia), .int .i64 n, .int .i64 m, .osl 1000 (nums r).length] (.tup []) [(1000, .row 1 (rowF (nums r) (paV (tkV r lt) k n m g)))]
  | 0, n, _, _, hn, hd => (dp_pos ho hn hd).elim
  | k + 1, n, m, g, hn, hd => by
    have hL := open_listed ho
    have hne : r ≠ [] := by have := listed_60 hL; intro e; subst e; simp at this
    have hx := tk_mem hL hlt hn
    have hsz := h.1.2 _ hx.1
    have h8 := tk_8 ho hlt n hn
    have hrec := fun y (hy : y ∈ (tkV r lt n).its) => fun m g => parts_pb r lt h ho hlt k y.1 m g (dp_its ho hlt hn hd hy).1 (dp_its ho hlt hn hd hy).2
    have ht := taken_pcR (G := G) r lt n h hL hlt hn
    have fl := rowF_len (l := nums r) (g := g)
    rw [paV]
    generalize tkV r lt n = x at *
    obtain ⟨h1, h2⟩ := nums_idx hn
    have e1 : idx (nums r) n = ((nums r).idxOf n : Nat) := by rw [idx, if_pos hn]
    have e2 : (nums r)[(nums r).idxOf n]? = some n := by rw [List.getElem?_eq_getElem h1, List.getElem_idxOf h1]
    have fg := rowF_get (g := g) e2
    have fs := fun v => rowF_set (nums_nodup (ord_of hL)) (g := g) (v := v) e2
    (refine pb_ref02_parts (Nat.le_of_ble_eq_true rfl) fun R hG hrd => GO_AR mixed 1000 ?_; subst hG)
    simp -implicitDefEqProofs [rc_ref02_parts, rr_ref02_parts, rega]
    (first | refine CallK.of (ht) (by simp) ?_ | refine CallD.of (ht) (by simp) ?_)
    simp -implicitDefEqProofs [isa]
    by_cases hk : 1 < x.k
    · simp -implicitDefEqProofs [hk]
      (first | refine CallK.of (numbers_pc r h.1.1 hne) (by simp) ?_ | refine CallD.of (numbers_pc r h.1.1 hne) (by simp) ?_)
      simp -implicitDefEqProofs []
      (first | refine CallK.of (index_pc (nums r) n (nums_sml h.1.1)) (by simp) ?_ | refine CallD.of (index_pc (nums r) n (nums_sml h.1.1)) (by simp) ?_)
      simp -implicitDefEqProofs [e1, h1, fl, fg, fs]
      simp -implicitDefEqProofs [FinB, frzSt, newK, frz_rowF, addW, tupV, evRess]
    · simp -implicitDefEqProofs [hk]
      refine AR_for (fun i => ⟨[(11, .int .i64 i), (1, .vsl (lt.map ia)), (3, .int .i64 m), (4, .osl 1000 (nums r).length), (5, .ptr 5 0), (10, .ptr 10 0)], [(1000, .row 1 (rowF (nums r) ((x.its.take i).foldl (fun g y => paV (tkV r lt) k y.1 (mulW m y.2) g) g))), (5, .box [.vsl (r.map isa)]), (10, .box (isa x))]⟩) (fun _ => True) x.its.length (by (first | exact Weak.tm (by simp [lk, isa]) | exact Weak.sub (by simp [lk, keptA, AV.keys, isa]) (by simp [lk, keptO, keptA, AV.keys, isa]))) trivial ?_ ?_
      · intro i hi _
        refine GO_AR mixed 9 ?_
        have w1 : IntKind.i64.wrap ((i : Int) + 1) = ((i + 1 : Nat) : Int) := wrapI (by omega) (by omega)
        have ft := fold_take (fun g (y : Int × Int) => paV (tkV r lt) k y.1 (mulW m y.2) g) g x.its i hi
        simp -implicitDefEqProofs [hi, isa]
        refine GO0 (AR_regt mixed 17 (by decide) ?_)
        simp -implicitDefEqProofs [hi, ita]
        refine ⟨rfl, CallK.sem (CallSem.byref (hrec x.its[i] (List.getElem_mem hi) (mulW m x.its[i].2) ((x.its.take i).foldl (fun g y => paV (tkV r lt) k y.1 (mulW m y.2) g) g)) id (by simp) (by simp) (by simp [St.get, lk, ren_rowF]) (by simp [kept_rowF]) (by simp [keptA, AV.keys, lk, rega]) rfl (by simp [AV.ren, rega, mulW]) rfl rfl) ?_⟩
        simp -implicitDefEqProofs [setsB, ren_rowF]
        refine GO_ret mixed 1000 ?_
        simp -implicitDefEqProofs [w1]
        refine Weak.sub (by simp [lk, keptA, AV.keys]) ?_
        simp only [List.mem_cons, List.not_mem_nil, or_false, forall_eq_or_imp, forall_eq, kept_rowF, and_true]
        simp [lk, keptO, keptA, AV.keys, isa, ft]
      · intro _
        refine GO_AR mixed 1000 ?_
        simp -implicitDefEqProofs [isa]
        refine GO_ret mixed 1000 ?_
        simp -implicitDefEqProofs []
        simp -implicitDefEqProofs [FinB, frzSt, newK, frz_rowF, tupV, evRess]

/-- The state of the loop over the counts. -/
def ptS (r : List Iss) (g : Int → Int) (i : Nat) : St := if ptN (nums r) g i = [] then ⟨[(10, .int .i64 i), (9, .nils), (8, .osl 15 (nums r).length), (7, .vsl ((nums r).map ia))], [(15, .row 1 (rowF (nums r) g))]⟩
  else ⟨[(10, .int .i64 i), (9, .osl 43 (ptN (nums r) g i).length), (8, .osl 15 (nums r).length), (7, .vsl ((nums r).map ia))], [(15, .row 1 (rowF (nums r) g)), (43, .row 2 ((ptN (nums r) g i).map ita))]⟩
theorem ita_kept (l : List (Int × Int)) (o : List (Nat × AObj)) : keptO o (.row 2 (l.map ita)) = true := by
  simp only [keptO, List.all_eq_true, List.mem_map]
  rintro x ⟨y, -, rfl⟩ v hv
  simp only [ita, List.mem_cons, List.not_mem_nil, or_false] at hv
  rcases hv with rfl | rfl <;> simp [keptA, AV.keys]

theorem partsR_pc (r : List Iss) (lt : List Int) (n : Int) (h : Wf r) (ho : openV r = 0) (hlt : ltB r lt = true) (hn : n ∈ nums r) :
    PC Tryd.prog G 79 [rega r, .vsl (lt.map ia), .int .i64 n] (if ptN (nums r) (paV (tkV r lt) 6 n 1 fun _ => 0) (nums r).length = [] then .nils else .vsl ((ptN (nums r) (paV (tkV r lt) 6 n 1 fun _ => 0) (nums r).length).map ita)) := by
  have hL := open_listed ho
  have hne : r ≠ [] := by have := listed_60 hL; intro e; subst e; simp at this
  have hl := listed_20 hL
  have hp := parts_pb (G := G) r lt h ho hlt 6 n 1 (fun _ => 0) hn (dpN_bd ho hn).2
  generalize paV (tkV r lt) 6 n 1 (fun _ => 0) = g at *
  (refine pc_ref02_Parts (Nat.le_of_ble_eq_true rfl) fun R hG hrd => GO_AR mixed 1000 ?_; subst hG)
  have rp := rowF_rep (l := nums r)
  have b8 : ((nums r).length : Int) ≤ 16777216 := by omega
  simp -implicitDefEqProofs [rc_ref02_Parts, rr_ref02_Parts, rega]
  (first | refine CallK.of (numbers_pc r h.1.1 hne) (by simp) ?_ | refine CallD.of (numbers_pc r h.1.1 hne) (by simp) ?_)
  simp -implicitDefEqProofs [rp, b8]
  refine CallK.sem (CallSem.byref hp (fun _ => 15) (by simp) (by simp) (by simp [St.get, lk, ren_rowF]) (by simp [kept_rowF]) (by simp [keptA, AV.keys, lk, rega]) rfl (by simp [AV.ren, rega]) rfl rfl) ?_
  simp -implicitDefEqProofs [setsB, ren_rowF]
  have fl := rowF_len (l := nums r) (g := g)
  refine AR_for (ptS r g) (fun _ => True) (nums r).length ?_ trivial ?_ ?_
  · have e0 : ptN (nums r) g 0 = [] := rfl
    simp only [ptS, e0, if_true]
    refine Weak.sub (by simp [lk, keptA, AV.keys]) ?_
    simp only [List.mem_cons, List.not_mem_nil, or_false, forall_eq, kept_rowF, and_true]
    simp [lk]
  · intro i hi _
    refine GO_AR mixed 1000 ?_
    have w1 : IntKind.i64.wrap ((i : Int) + 1) = ((i + 1 : Nat) : Int) := wrapI (by omega) (by omega)
    have e2 : (nums r)[i]? = some (nums r)[i] := List.getElem?_eq_getElem hi
    have fg := rowF_get (g := g) e2
    have fa := rowF_at (l := nums r) (g := g) (j := i) (by omega)
    have hs := ptN_succ (g := g) hi
    have bl := ptN_len (nums r) g i
    have bb : ((ptN (nums r) g i).length + 1) * 16 ≤ 70368744177664 := by omega
    by_cases e : ptN (nums r) g i = [] <;> by_cases c : 0 < g (nums r)[i]
    · rw [if_pos c, e] at hs
      simp -implicitDefEqProofs [ptS, e, hi, ia, fl, fg, c, w1, hs]
      refine ⟨rfl, ?_⟩
      refine Weak.sub (by simp [lk, keptA, AV.keys]) ?_
      simp only [List.mem_cons, List.not_mem_nil, or_false, forall_eq_or_imp, forall_eq, kept_rowF, ita_kept, and_true]
      simp [lk, keptO, keptA, AV.keys, ita]
    · rw [if_neg c, e] at hs
      simp -implicitDefEqProofs [ptS, e, hi, ia, fl, fg, c, w1, hs]
      refine Weak.sub (by simp [lk, keptA, AV.keys]) ?_
      simp only [List.mem_cons, List.not_mem_nil, or_false, forall_eq_or_imp, forall_eq, kept_rowF, ita_kept, and_true]
      simp [lk, keptO, keptA, AV.keys, ita]
    · rw [if_pos c] at hs
      simp -implicitDefEqProofs [ptS, e, hi, ia, fl, fg, c, w1, hs, bb]
      refine ⟨rfl, ?_⟩
      refine Weak.sub (by simp [lk, keptA, AV.keys]) ?_
      simp only [List.mem_cons, List.not_mem_nil, or_false, forall_eq_or_imp, forall_eq, kept_rowF, ita_kept, and_true]
      simp [lk, keptO, keptA, AV.keys, ita]
    · rw [if_neg c] at hs
      simp -implicitDefEqProofs [ptS, e, hi, ia, fl, fg, c, w1, hs]
      refine Weak.sub (by simp [lk, keptA, AV.keys]) ?_
      simp only [List.mem_cons, List.not_mem_nil, or_false, forall_eq_or_imp, forall_eq, kept_rowF, ita_kept, and_true]
      simp [lk, keptO, keptA, AV.keys, ita]
  · intro _
    refine GO_AR mixed 1000 ?_
    by_cases e : ptN (nums r) g (nums r).length = []
    · simp -implicitDefEqProofs [ptS, e]
      refine GO_ret mixed 1000 ?_
      simp -implicitDefEqProofs [e]
    · have pu : ((ptN (nums r) g (nums r).length).map ita).all (fun r => r.all AV.pure) = true := by simp [ita, AV.pure]
      simp -implicitDefEqProofs [ptS, e]
      refine GO_ret mixed 1000 ?_
      simp -implicitDefEqProofs [e, pu]

theorem explR_pc (r : List Iss) (lt : List Int) (n : Int) (h : Wf r) : PC Tryd.prog G 34 [rega r, .vsl (lt.map ia), .int .i64 n] (.tup [.vsl ((exV r lt n).1.map ita), .int .i64 (exV r lt n).2]) := by
  by_cases e : askV r lt n = 0
  · obtain ⟨ho, hlt, hn⟩ := ask_0 e
    have hp := partsR_pc (G := G) r lt n h ho hlt hn
    have ev : exV r lt n = (ptN (nums r) (paV (tkV r lt) 6 n 1 fun _ => 0) (nums r).length, 0) := by rw [exV, if_pos e]
    rw [ev]
    generalize ptN (nums r) (paV (tkV r lt) 6 n 1 fun _ => 0) (nums r).length = l at *
    refine PC.nzR (v := .tup [if l = [] then .nils else .vsl (l.map ita), .int .i64 0]) ?_ (by by_cases q : l = [] <;> simp [q, nz])
    (refine pc_ref02_Explode (Nat.le_of_ble_eq_true rfl) fun R hG hrd => GO_AR mixed 1000 ?_; subst hG)
    simp -implicitDefEqProofs [rc_ref02_Explode, rr_ref02_Explode, rega]
    (first | refine CallK.of (asked_pc r lt n h) (by simp) ?_ | refine CallD.of (asked_pc r lt n h) (by simp) ?_)
    simp -implicitDefEqProofs [e]
    refine CallK.of hp (by simp) ?_
    by_cases q : l = []
    · simp -implicitDefEqProofs [q]
    · simp -implicitDefEqProofs [q]
  · refine PC.nzR (v := .tup [.nils, .int .i64 (askV r lt n)]) ?_ (by simp [nz, exV, e])
    (refine pc_ref02_Explode (Nat.le_of_ble_eq_true rfl) fun R hG hrd => GO_AR mixed 1000 ?_; subst hG)
    simp -implicitDefEqProofs [rc_ref02_Explode, rr_ref02_Explode, rega]
    (first | refine CallK.of (asked_pc r lt n h) (by simp) ?_ | refine CallD.of (asked_pc r lt n h) (by simp) ?_)
    simp -implicitDefEqProofs [e]

/-- The tree, or the error. -/
def trE (r : List Iss) (lt : List Int) (n : Int) : List Brn × Int := if askV r lt n = 0 then if 500 < brN (tkV r lt) 6 n then ([], 4) else (trV (tkV r lt) 6 0 n 1, 0) else ([], askV r lt n)
theorem treeR_pc (r : List Iss) (lt : List Int) (n : Int) (h : Wf r) : PC Tryd.prog G 36 [rega r, .vsl (lt.map ia), .int .i64 n] (.tup [.vsl ((trE r lt n).1.map bra), .int .i64 (trE r lt n).2]) := by
  by_cases e : askV r lt n = 0
  · obtain ⟨ho, hlt, hn⟩ := ask_0 e
    have h6 := (dpN_bd ho hn).2
    by_cases c : 500 < brN (tkV r lt) 6 n
    · have c' : (500 : Int) < brN (tkV r lt) 6 n := by omega
      refine PC.nzR (v := .tup [.nils, .int .i64 4]) ?_ (by simp [nz, trE, e, c])
      (refine pc_ref02_Tree (Nat.le_of_ble_eq_true rfl) fun R hG hrd => GO_AR mixed 1000 ?_; subst hG)
      simp -implicitDefEqProofs [rc_ref02_Tree, rr_ref02_Tree, rega]
      (first | refine CallK.of (asked_pc r lt n h) (by simp) ?_ | refine CallD.of (asked_pc r lt n h) (by simp) ?_)
      simp -implicitDefEqProofs [e]
      (first | refine CallK.of (branches_pc r lt h ho hlt 6 n (Nat.le_refl _) hn h6) (by simp) ?_ | refine CallD.of (branches_pc r lt h ho hlt 6 n (Nat.le_refl _) hn h6) (by simp) ?_)
      simp -implicitDefEqProofs [c']
    · have c' : ¬ (500 : Int) < brN (tkV r lt) 6 n := by omega
      have ev : trE r lt n = (trV (tkV r lt) 6 0 n 1, 0) := by rw [trE, if_pos e, if_neg c]
      rw [ev]
      (refine pc_ref02_Tree (Nat.le_of_ble_eq_true rfl) fun R hG hrd => GO_AR mixed 1000 ?_; subst hG)
      simp -implicitDefEqProofs [rc_ref02_Tree, rr_ref02_Tree, rega]
      (first | refine CallK.of (asked_pc r lt n h) (by simp) ?_ | refine CallD.of (asked_pc r lt n h) (by simp) ?_)
      simp -implicitDefEqProofs [e]
      (first | refine CallK.of (branches_pc r lt h ho hlt 6 n (Nat.le_refl _) hn h6) (by simp) ?_ | refine CallD.of (branches_pc r lt h ho hlt 6 n (Nat.le_refl _) hn h6) (by simp) ?_)
      simp -implicitDefEqProofs [c']
      (first | refine CallK.of (tree_pc r lt h ho hlt 6 n 0 1 (Nat.le_refl _) hn h6 (Int.le_refl _) (by omega)) (by simp) ?_ | refine CallD.of (tree_pc r lt h ho hlt 6 n 0 1 (Nat.le_refl _) hn h6 (Int.le_refl _) (by omega)) (by simp) ?_)
      simp -implicitDefEqProofs []
  · refine PC.nzR (v := .tup [.nils, .int .i64 (askV r lt n)]) ?_ (by simp [nz, trE, e])
    (refine pc_ref02_Tree (Nat.le_of_ble_eq_true rfl) fun R hG hrd => GO_AR mixed 1000 ?_; subst hG)
    simp -implicitDefEqProofs [rc_ref02_Tree, rr_ref02_Tree, rega]
    (first | refine CallK.of (asked_pc r lt n h) (by simp) ?_ | refine CallD.of (asked_pc r lt n h) (by simp) ?_)
    simp -implicitDefEqProofs [e]

theorem brn_ne {a b : Brn} (h : ¬ a = b) : (!decide (a.dep = b.dep) || (!decide (a.d = b.d) || (!decide (a.l = b.l) || !decide (a.c = b.c)))) = true := by
  cases h5 : (!decide (a.dep = b.dep) || (!decide (a.d = b.d) || (!decide (a.l = b.l) || !decide (a.c = b.c))))
  · simp only [Bool.or_eq_false_iff, Bool.not_eq_false', decide_eq_true_eq] at h5
    cases a; cases b; simp_all
  · rfl
theorem sameBr_pc (a b : List Brn) (ha : Sml a) : PC Tryd.prog G 38 [.vsl (a.map bra), .vsl (b.map bra)] (.bool (decide (a = b))) := by
  (refine pc_ref02_SameBranches (Nat.le_of_ble_eq_true rfl) fun R hG hrd => GO_AR mixed 1000 ?_; subst hG)
  by_cases hl : a.length = b.length
  · have hl' : (a.length : Int) = b.length := by omega
    simp -implicitDefEqProofs [rc_ref02_SameBranches, rr_ref02_SameBranches, hl']
    refine AR_for (fun i => ⟨[(5, .int .i64 i), (0, .vsl (a.map bra)), (1, .vsl (b.map bra))], []⟩) (fun i => ∀ j (h : j < a.length), j < i → a[j] = b[j]) a.length (by (first | exact Weak.tm (by simp [lk]) | exact Weak.sub (by simp [lk, keptA, AV.keys]) (by simp [lk, keptO, keptA, AV.keys]))) (by simp) ?_ ?_
    · intro i hi he
      refine GO_AR mixed 1000 ?_
      unfold Sml at ha
      have hi2 : i < b.length := by omega
      have w1 : IntKind.i64.wrap ((i : Int) + 1) = ((i + 1 : Nat) : Int) := wrapI (by omega) (by omega)
      simp -implicitDefEqProofs [hi, hi2, bra]
      refine ⟨rfl, ?_⟩
      by_cases h2 : a[i] = b[i]
      · simp -implicitDefEqProofs [h2, w1]
        refine ⟨(by (first | exact Weak.tm (by simp [lk]) | exact Weak.sub (by simp [lk, keptA, AV.keys]) (by simp [lk, keptO, keptA, AV.keys]))), fun j h1 h3 => ?_⟩
        by_cases e : j = i
        · subst e; exact h2
        · exact he j h1 (by omega)
      · have h3 : ¬ a = b := fun e => h2 (by subst e; rfl)
        rw [brn_ne h2]
        simp -implicitDefEqProofs []
        refine GO_ret mixed 1000 ?_
        simp -implicitDefEqProofs [h3]
    · intro he
      refine GO_AR mixed 1000 ?_
      have h3 : a = b := List.ext_getElem hl fun j h1 h2 => he j h1 h1
      simp -implicitDefEqProofs []
      refine GO_ret mixed 1000 ?_
      simp -implicitDefEqProofs [h3]
  · have hl' : ¬ (a.length : Int) = b.length := by omega
    have h3 : ¬ a = b := fun e => hl (by rw [e])
    simp -implicitDefEqProofs [rc_ref02_SameBranches, rr_ref02_SameBranches, hl', h3]
end
end Go.Proofs.YtdpmioiamcgfkaaDoor

/-! Parts and trees: what the program's functions compute: the issues that are taken. -/
namespace Go.Proofs.YtdpmioiamcgfkaaDoor
open Go.RowKit

/-! Maps by drawings. -/
def mpA {α : Type} (f : α → AV) (l : List (Int × α)) : List (AV × AV) := l.map fun p => (.int .i64 p.1, f p.2)
def mlk {α : Type} (n : Int) : List (Int × α) → Option α
  | [] => none
  | p :: l => if n = p.1 then some p.2 else mlk n l
theorem find_mp {α : Type} (f : α → AV) (n : Int) : ∀ l : List (Int × α), ∃ o : Option Nat, (KK.i .i64).find (.int .i64 n) (mpA f l) = some o ∧ match o with
    | some j => ∃ v, l[j]? = some (n, v) ∧ mlk n l = some v
    | none => mlk n l = none ∧ ∀ p ∈ l, p.1 ≠ n
  | [] => ⟨none, rfl, rfl, by simp⟩
  | p :: r => by
    obtain ⟨o, h1, h2⟩ := find_mp f n r
    by_cases e : n = p.1
    · refine ⟨some 0, by simp [mpA, KK.find, KK.eq, e], p.2, by simp [e], by simp [mlk, e]⟩
    · refine ⟨o.map (· + 1), ?_, ?_⟩
      · simp only [mpA, List.map_cons, KK.find, KK.eq, and_self, if_true, e, decide_false]
        rw [show r.map (fun p => (AV.int .i64 p.1, f p.2)) = mpA f r from rfl, h1]; rfl
      · cases o with
        | none => exact ⟨by simp only [mlk, e, if_false]; exact h2.1, fun q hq => by
            rcases List.mem_cons.1 hq with rfl | hq
            · exact fun h => e h.symm
            · exact h2.2 q hq⟩
        | some j =>
          obtain ⟨v, h3, h4⟩ := h2
          exact ⟨v, by simpa using h3, by simp only [mlk, e, if_false]; exact h4⟩
theorem get_mp {α : Type} (f : α → AV) (n : Int) (l : List (Int × α)) : (KK.i .i64).get (.int .i64 n) (mpA f l) = some ((mlk n l).map f) := by
  obtain ⟨o, h1, h2⟩ := find_mp f n l
  have hi : (KK.i .i64).is (.int .i64 n) = true := by simp [KK.is]
  unfold KK.get
  rw [if_pos hi, h1]
  cases o with
  | none => simp [h2.1]
  | some j => obtain ⟨v, h3, h4⟩ := h2; simp [mpA, h3, h4]
theorem put_mp {α : Type} (f : α → AV) {n : Int} (v : α) {l : List (Int × α)} (h : n ∉ l.map (·.1)) : (KK.i .i64).put (.int .i64 n) (f v) (mpA f l) = some (mpA f (l ++ [(n, v)])) := by
  obtain ⟨o, h1, h2⟩ := find_mp f n l
  have hi : (KK.i .i64).is (.int .i64 n) = true := by simp [KK.is]
  unfold KK.put
  rw [if_pos hi, h1]
  cases o with
  | none => simp [mpA]
  | some j =>
    obtain ⟨w, h3, h4⟩ := h2
    exact absurd (List.mem_map.2 ⟨_, List.mem_of_getElem? h3, rfl⟩) h
theorem find_ct (n v : Int) : ∀ l : List (Int × Int), ∃ o : Option Nat, (KK.i .i64).find (.int .i64 n) (dpA l) = some o ∧ match o with
    | some j => j < l.length ∧ mpPut n v l = l.set j (n, v)
    | none => mpPut n v l = l ++ [(n, v)]
  | [] => ⟨none, rfl, rfl⟩
  | p :: r => by
    obtain ⟨o, h1, h2⟩ := find_ct n v r
    by_cases e : n = p.1
    · exact ⟨some 0, by simp [dpA, KK.find, KK.eq, e], by simp, by simp [mpPut, e]⟩
    · refine ⟨o.map (· + 1), ?_, ?_⟩
      · simp only [dpA, List.map_cons, KK.find, KK.eq, and_self, if_true, e, decide_false]
        rw [show r.map (fun p => (AV.int .i64 p.1, AV.int .i64 p.2)) = dpA r from rfl, h1]; rfl
      · have e' : ¬ p.1 = n := fun h => e h.symm
        cases o with
        | none => simp only [Option.map_none, mpPut, if_neg e', h2]; rfl
        | some j => exact ⟨by simp only [List.length_cons]; omega, by simp only [mpPut, if_neg e', h2.2]; rfl⟩
theorem put_ct (n v : Int) (l : List (Int × Int)) : (KK.i .i64).put (.int .i64 n) (.int .i64 v) (dpA l) = some (dpA (mpPut n v l)) := by
  obtain ⟨o, h1, h2⟩ := find_ct n v l
  have hi : (KK.i .i64).is (.int .i64 n) = true := by simp [KK.is]
  unfold KK.put
  rw [if_pos hi, h1]
  cases o with
  | none => simp only [h2]; simp [dpA]
  | some j => rw [h2.2]; simp [dpA, List.map_set]

/-- The issues that are taken, by drawings. -/
def byN (r : List Iss) (lt : List Int) (i : Nat) : List (Int × Iss) := ((nums r).take i).map fun n => (n, tkV r lt n)
def isA (x : Iss) : AV := .agg (isa x)
def byA (r : List Iss) (lt : List Int) : AV := .vmap (mpA isA (byN r lt (nums r).length))
theorem byN_succ {r : List Iss} {lt : List Int} {i : Nat} (h : i < (nums r).length) : byN r lt (i + 1) = byN r lt i ++ [((nums r)[i], tkV r lt (nums r)[i])] := by
  rw [byN, List.take_succ_eq_append_getElem h, List.map_append]; rfl
theorem byN_new {r : List Iss} {lt : List Int} (hO : Ord r) {i : Nat} (h : i < (nums r).length) : (nums r)[i] ∉ (byN r lt i).map (·.1) := by
  simp only [byN, List.map_map, List.mem_map, Function.comp]
  rintro ⟨n, hn, e⟩
  obtain ⟨j, hj, rfl⟩ := List.getElem_of_mem hn
  simp only [List.length_take] at hj
  simp only [List.getElem_take] at e
  have := List.pairwise_iff_getElem.1 (nums_lt hO) j i (by omega) h (by omega)
  omega
theorem idxOf_num {r : List Iss} (hO : Ord r) {i : Nat} (h : i < (nums r).length) : (nums r).idxOf (nums r)[i] = i := by
  have h1 : (nums r).idxOf (nums r)[i] < (nums r).length := List.idxOf_lt_length_iff.2 (List.getElem_mem h)
  have h2 := List.getElem_idxOf h1
  rcases Nat.lt_trichotomy ((nums r).idxOf (nums r)[i]) i with c | c | c
  · have := List.pairwise_iff_getElem.1 (nums_lt hO) _ i h1 h c
    omega
  · exact c
  · have := List.pairwise_iff_getElem.1 (nums_lt hO) i _ h h1 c
    omega
theorem byN_pure (r : List Iss) (lt : List Int) (i : Nat) : (mpA isA (byN r lt i)).all (fun p => p.1.pure && p.2.pure) = true := by
  simp only [mpA, List.all_eq_true, List.mem_map]
  rintro _ ⟨y, -, rfl⟩
  simp [isA, isa, AV.pure]
theorem byN_get {r : List Iss} {lt : List Int} {n : Int} (hn : n ∈ nums r) : mlk n (byN r lt (nums r).length) = some (tkV r lt n) := by
  rw [byN, List.take_length]
  have key : ∀ l : List Int, n ∈ l → mlk n (l.map fun n => (n, tkV r lt n)) = some (tkV r lt n) := by
    intro l
    induction l with
    | nil => intro h; cases h
    | cons x l ih =>
      intro h
      simp only [List.map_cons, mlk]
      by_cases e : n = x
      · rw [if_pos e, e]
      · rw [if_neg e]; exact ih ((List.mem_cons.1 h).resolve_left e)
  exact key _ hn
theorem kept_isA (o : List (Nat × AObj)) (l : List (Int × Iss)) : keptO o (.mp (mpA isA l)) = true := by
  simp only [keptO, List.all_eq_true, mpA, List.mem_map]
  rintro _ ⟨y, -, rfl⟩
  simp [isA, isa, keptA, AV.keys]
def takA (r : List Iss) (lt : List Int) (n : Int) : AV := .tup [if askV r lt n = 0 then bkA r (nums r) else .nilp, if askV r lt n = 0 then byA r lt else .nilm, .int .i64 (askV r lt n)]

section
variable {G : Nat → Option (List AV)}

theorem taken_pc (hG : GC G) (r : List Iss) (lt : List Int) (n : Int) (h : Wf r) : PC Tryd.prog G 76 [rega r, .vsl (lt.map ia), .int .i64 n] (takA r lt n) := by
  (refine pc_sheet_taken (Nat.le_of_ble_eq_true rfl) fun R hG hrd => GO_AR mixed 1000 ?_; subst hG)
  simp -implicitDefEqProofs [rc_sheet_taken, rr_sheet_taken, rega]
  (first | refine CallK.of (open_pc hG r h) (by simp) ?_ | refine CallD.of (open_pc hG r h) (by simp) ?_)
  by_cases e : openV r = 0
  case neg => simp -implicitDefEqProofs [openA, e, takA, askV]
  have hL := open_listed e
  have hO := ord_of hL
  have hl := listed_20 hL
  by_cases q : lt.length = (nums r).length
  case neg =>
    have q' : ¬ (lt.length : Int) = (nums r).length := by omega
    have no : askV r lt n = 22 := by simp [askV, e, ltB, q]
    simp -implicitDefEqProofs [openA, e, bkA, q', takA, no]
  have q' : (lt.length : Int) = (nums r).length := by omega
  simp -implicitDefEqProofs [openA, e, bkA, q']
  refine AR_for (fun i => ⟨[(34, .int .i64 i), (33, .int .i64 (nums r).length), (11, .mp 31), (9, bkA r (nums r)), (1, .vsl (lt.map ia)), (2, .int .i64 n)], [(31, .mp (mpA isA (byN r lt i)))]⟩) (fun i => ∀ j, j < i → inR (lt.getD j 0) 1 (lastV r ((nums r).getD j 0)) = true) (nums r).length (by (first | exact Weak.tm (by simp [lk, bkA, mpA, byN]) | exact Weak.sub (by simp [lk, keptA, AV.keys, bkA, mpA, byN]) (by simp [lk, keptO, keptA, AV.keys, bkA, mpA, byN]))) (by simp) ?_ ?_
  · intro i hi he
    refine GO_AR mixed 1000 ?_
    have w1 : IntKind.i64.wrap ((i : Int) + 1) = ((i + 1 : Nat) : Int) := wrapI (by omega) (by omega)
    have hi2 : i < lt.length := by omega
    have e1 : lt.getD i 0 = lt[i] := by simp [List.getD, hi2]
    have e2 : (nums r).getD i 0 = (nums r)[i] := by simp [List.getD, hi]
    simp -implicitDefEqProofs [hi, hi2, ia, bkA]
    (first | refine CallK.of (find_pcS r (nums r) (nums r)[i] lt[i] (ord_map hO) h.1.1 (find_own hL)) (by simp) ?_ | refine CallD.of (find_pcS r (nums r) (nums r)[i] lt[i] (ord_map hO) h.1.1 (find_own hL)) (by simp) ?_)
    cases f : findN (nums r)[i] lt[i] r with
    | none =>
      have no : askV r lt n = 22 := by
        have : ltB r lt = false := by
          cases hI : ltB r lt
          · rfl
          · simp only [ltB, Bool.and_eq_true] at hI
            have := range_all.1 hI.2 i hi
            rw [e1, e2, ← find_iff hL, f] at this; cases this
        simp [askV, e, this]
      simp -implicitDefEqProofs [fndA, noIs]
      refine ⟨rfl, ?_⟩
      refine GO_ret mixed 1000 ?_
      simp -implicitDefEqProofs [takA, no]
    | some x =>
      simp -implicitDefEqProofs [fndA, isa]
      obtain ⟨hm, hd, hl2⟩ := findN_mem f
      have et : tkV r lt (nums r)[i] = x := by
        have : ltOf r lt (nums r)[i] = lt[i] := by rw [ltOf, idxOf_num hO hi, e1]
        rw [tkV, this, f]; rfl
      have pm := put_mp isA x (byN_new (lt := lt) hO hi)
      rw [← et, ← byN_succ hi, et, isA, isa, hd] at pm
      simp -implicitDefEqProofs [hd, pm, w1]
      refine ⟨rfl, ?_, fun j hj => ?_⟩
      · refine Weak.sub (by simp [lk, keptA, AV.keys]) ?_
        simp only [List.mem_cons, List.not_mem_nil, or_false, forall_eq, kept_isA, and_true]
        simp [lk]
      · by_cases ej : j = i
        · subst ej
          simp only [List.getD_eq_getElem?_getD] at e1 e2
          rw [e1, e2, ← find_iff hL, f]; rfl
        · simpa using he j (by omega)
  · intro he
    refine GO_AR mixed 1000 ?_
    have yes : ltB r lt = true := by simp only [ltB, Bool.and_eq_true, decide_eq_true_eq]; exact ⟨q, range_all.2 he⟩
    simp -implicitDefEqProofs []
    refine GO_ret mixed 1000 ?_
    simp -implicitDefEqProofs []
    (first | refine CallK.of (has_pc r (nums r) n (nums_le hO) (nums_sml h.1.1)) (by simp) ?_ | refine CallD.of (has_pc r (nums r) n (nums_le hO) (nums_sml h.1.1)) (by simp) ?_)
    by_cases c : n ∈ nums r
    · have yes2 : askV r lt n = 0 := by simp [askV, e, yes, c]
      simp -implicitDefEqProofs [c, takA, yes2]
      have pu := byN_pure r lt (nums r).length
      simp -implicitDefEqProofs [pu, bkA, byA]
    · have no : askV r lt n = 6 := by simp [askV, e, yes, c]
      simp -implicitDefEqProofs [c, takA, no]
end
end Go.Proofs.YtdpmioiamcgfkaaDoor

/-! Parts: what the program's Explode computes. -/
namespace Go.Proofs.YtdpmioiamcgfkaaDoor
open Go.RowKit

theorem ren_dpA (ρ : Nat → Nat) (l : List (Int × Int)) : (AObj.mp (dpA l)).ren ρ = .mp (dpA l) := by
  simp only [AObj.ren, dpA, List.map_map]
  congr 2; funext p; simp [AV.ren]
theorem map_dpA (ρ : Nat → Nat) (l : List (Int × Int)) : (dpA l).map (fun p => (p.1.ren ρ, p.2.ren ρ)) = dpA l := by
  simp only [dpA, List.map_map]; congr 1; funext p; simp [AV.ren]
theorem frz_dpA (ok : Nat → Bool) (st : St) (l : List (Int × Int)) : frzO ok st (.mp (dpA l)) = .mp (dpA l) := by
  simp only [frzO, dpA, List.map_map]
  congr 2; funext p; simp [frzA, frz, AV.keys]
theorem kept_dpA (o : List (Nat × AObj)) (l : List (Int × Int)) : keptO o (.mp (dpA l)) = true := by
  simp only [keptO, List.all_eq_true, dpA, List.mem_map]
  rintro x ⟨y, -, rfl⟩
  simp [keptA, AV.keys]
theorem ren_byA (ρ : Nat → Nat) (r : List Iss) (lt : List Int) : (byA r lt).ren ρ = byA r lt := by simp [byA, AV.ren]
theorem frz_byA (ok : Nat → Bool) (st : St) (r : List Iss) (lt : List Int) : frzA ok st (byA r lt) = byA r lt := by simp [byA, frzA, frz, AV.keys]
theorem frz_b1 (ok : Nat → Bool) (st : St) (r : List Iss) (lt : List Int) : frzO ok st (.box [byA r lt]) = .box [byA r lt] := by simp [frzO, frz_byA]
theorem frz_b2 (st : St) {ok : Nat → Bool} {k : Nat} (h : ok k = false) : frzO ok st (.box [.mp k]) = .box [.mp k] := by simp [frzO, frzA, frz, h]
theorem frz_b3 (st : St) {ok : Nat → Bool} {f : Fn} {a b c : Nat} (h1 : ok a = false) (h2 : ok b = false) (h3 : ok c = false) : frzO ok st (.box [.func f [] [.ptr a 0, .ptr b 0, .ptr c 0]]) = .box [.func f [] [.ptr a 0, .ptr b 0, .ptr c 0]] := by simp [frzO, frzA, frz, h1, h2, h3]
theorem keys_byA (r : List Iss) (lt : List Int) : (byA r lt).keys = [] := by simp [byA, AV.keys]
theorem one_byA (r : List Iss) (lt : List Int) : (byA r lt).one = true := by simp [byA, AV.one, AV.known]
theorem kept_byA (o : List (Nat × AObj)) (r : List Iss) (lt : List Int) : keptA o (byA r lt) = true := by simp [byA, keptA, AV.keys]

/-- What Explode's own function is handed. -/
def exO (r : List Iss) (lt : List Int) (l : List (Int × Int)) : List (Nat × AObj) :=
  [(1009, .box [byA r lt]), (1011, .box [.mp 1027]), (1012, .box [.func (.func 77) [] [.ptr 1009 0, .ptr 1011 0, .ptr 1012 0]]), (1027, .mp (dpA l))]

theorem exO_in (r : List Iss) (lt : List Int) (l : List (Int × Int)) : ∀ p ∈ exO r lt l, keptO (exO r lt l) p.2 = true := by
  simp only [exO, List.mem_cons, List.not_mem_nil, or_false, forall_eq_or_imp, forall_eq, kept_dpA, and_true]
  simp [lk, keptO, keptA, AV.keys, keys_byA]

section
variable {G : Nat → Option (List AV)}

/-- The state of the loop over the items. -/
def exS (r : List Iss) (lt : List Int) (m : Int) (x : Iss) (l : List (Int × Int)) (i : Nat) : St := ⟨[(24, .int .i64 i), (23, .int .i64 x.its.length), (22, .vsl (x.its.map ita)), (1, .int .i64 m), (4, .ptr 1012 0)], exO r lt l⟩
/-- The loop that stands last. -/
def lastLp : RCode → RCode
  | .seq _ b => lastLp b
  | .block _ b => b
  | c => c

theorem add_pb (r : List Iss) (lt : List Int) (ho : openV r = 0) (hlt : ltB r lt = true) : ∀ (k : Nat) (n m : Int) (l : List (Int × Int)), n ∈ nums r → dpN r n ≤ k →
    PB Tryd.prog G 77 (exO r lt l) [.int .i64 n, .int .i64 m, .ptr 1009 0, .ptr 1011 0, .ptr 1012 0] (.tup []) (exO r lt (paM (tkV r lt) k n m l))
  | 0, n, _, _, hn, hd => (dp_pos ho hn hd).elim
  | k + 1, n, m, l, hn, hd => by
    have hL := open_listed ho
    have hrec := fun y (hy : y ∈ (tkV r lt n).its) => fun m l => add_pb r lt ho hlt k y.1 m l (dp_its ho hlt hn hd hy).1 (dp_its ho hlt hn hd hy).2
    have gb := get_mp isA n (byN r lt (nums r).length)
    rw [byN_get hn] at gb
    have h8 := tk_8 ho hlt n hn
    have gc := get_dp n l
    rw [paM]
    generalize tkV r lt n = x at *
    have pc := put_ct n (addW (mpG l n) m) l
    (refine pb_sheet_Explode_1 (Nat.le_of_ble_eq_true rfl) fun R hG hrd => GO_AR mixed 1000 ?_; subst hG)
    have key : ∀ (l1 : List (Int × Int)) (st : St), Weak st (exS r lt m x l1 0) → AR Tryd.prog R (lastLp rc_sheet_Explode_1) st (RetP Tryd.prog R [KF.bk 0] (FinB [] (.tup []) (exO r lt (x.its.foldl (fun l y => paM (tkV r lt) k y.1 (mulW m y.2) l) l1)))) := by
      intro l1 st hw
      refine AR_for (fun i => exS r lt m x ((x.its.take i).foldl (fun l y => paM (tkV r lt) k y.1 (mulW m y.2) l) l1) i) (fun _ => True) x.its.length (by simpa using hw) trivial ?_ ?_
      · intro i hi _
        refine GO_AR mixed 1000 ?_
        have w1 : IntKind.i64.wrap ((i : Int) + 1) = ((i + 1 : Nat) : Int) := wrapI (by omega) (by omega)
        have ft := fold_take (fun l (y : Int × Int) => paM (tkV r lt) k y.1 (mulW m y.2) l) l1 x.its i hi
        have hr := hrec x.its[i] (List.getElem_mem hi) (mulW m x.its[i].2) ((x.its.take i).foldl (fun l y => paM (tkV r lt) k y.1 (mulW m y.2) l) l1)
        generalize (x.its.take i).foldl (fun l y => paM (tkV r lt) k y.1 (mulW m y.2) l) l1 = l2 at *
        simp -implicitDefEqProofs [lastLp, rc_sheet_Explode_1, exS, exO, hi, ita]
        refine CallK.sem (CallSem.byref hr id (by simp [exO]) (by simp [exO]) (by simp [exO, St.get, lk, ren_dpA, AObj.ren, AV.ren, ren_byA, map_dpA]) (exO_in _ _ _) (by simp [exO, keptA, AV.keys, lk]) rfl (by simp [AV.ren, mulW]) rfl rfl) ?_
        simp -implicitDefEqProofs [setsB, exO, ren_dpA, AObj.ren, AV.ren, ren_byA, map_dpA, w1]
        ((try simp only [exS, exO, byA, ft]); refine Weak.sub (by simp [lk, keptA, AV.keys, exS, exO, byA, ft]) ?_; simp only [exS, exO, byA, ft, List.cons_append, List.nil_append, List.mem_cons, List.not_mem_nil, or_false, forall_eq_or_imp, forall_eq, kept_dpA, and_true]; (try simp [lk, keptO, keptA, AV.keys, exS, exO, byA, ft]))
      · intro _
        refine GO_AR mixed 1000 ?_
        simp -implicitDefEqProofs [lastLp, rc_sheet_Explode_1, exS, exO]
        refine GO_ret mixed 1000 ?_
        simp -implicitDefEqProofs [FinB, frzSt, newK, frz_dpA, frz_b1, frz_b2, frz_b3, exO]
    by_cases e : x.k = 1
    · rw [if_pos e]
      simp -implicitDefEqProofs [rc_sheet_Explode_1, rr_sheet_Explode_1, exO, byA, gb, isA, isa, e]
      exact key l _ (by ((try simp only [exS, exO, byA]); refine Weak.sub (by simp [lk, keptA, AV.keys, exS, exO, byA]) ?_; simp only [exS, exO, byA, List.cons_append, List.nil_append, List.mem_cons, List.not_mem_nil, or_false, forall_eq_or_imp, forall_eq, kept_dpA, and_true]; (try simp [lk, keptO, keptA, AV.keys, exS, exO, byA])))
    · rw [if_neg e]
      generalize mpPut n (addW (mpG l n) m) l = l1 at *
      cases q : dpLk n l
      · have q2 : mpG l n = 0 := by simp [mpG, dpG, q]
        simp only [q2, addW, Int.zero_add] at pc
        simp -implicitDefEqProofs [rc_sheet_Explode_1, rr_sheet_Explode_1, exO, byA, gb, isA, isa, e, gc, q, pc]
        exact key l1 _ (by ((try simp only [exS, exO, byA]); refine Weak.sub (by simp [lk, keptA, AV.keys, exS, exO, byA]) ?_; simp only [exS, exO, byA, List.cons_append, List.nil_append, List.mem_cons, List.not_mem_nil, or_false, forall_eq_or_imp, forall_eq, kept_dpA, and_true]; (try simp [lk, keptO, keptA, AV.keys, exS, exO, byA])))
      · rename_i v
        have q2 : mpG l n = v := by simp [mpG, dpG, q]
        simp only [q2, addW] at pc
        simp -implicitDefEqProofs [rc_sheet_Explode_1, rr_sheet_Explode_1, exO, byA, gb, isA, isa, e, gc, q, pc]
        exact key l1 _ (by ((try simp only [exS, exO, byA]); refine Weak.sub (by simp [lk, keptA, AV.keys, exS, exO, byA]) ?_; simp only [exS, exO, byA, List.cons_append, List.nil_append, List.mem_cons, List.not_mem_nil, or_false, forall_eq_or_imp, forall_eq, kept_dpA, and_true]; (try simp [lk, keptO, keptA, AV.keys, exS, exO, byA])))
end
end Go.Proofs.YtdpmioiamcgfkaaDoor

/-! Parts: what the program's Explode computes, as a whole. -/
namespace Go.Proofs.YtdpmioiamcgfkaaDoor
open Go.RowKit

/-- The state of the loop over the drawings. -/
def ptP (r : List Iss) (l : List (Int × Int)) (i : Nat) : St := if ptN (nums r) (mpG l) i = [] then ⟨[(37, .int .i64 i), (36, .int .i64 (nums r).length), (35, .vsl ((nums r).map ia)), (11, .ptr 11 0), (13, .nils)], [(11, .box [.mp 27]), (27, .mp (dpA l))]⟩
  else ⟨[(37, .int .i64 i), (36, .int .i64 (nums r).length), (35, .vsl ((nums r).map ia)), (11, .ptr 11 0), (13, .osl 52 (ptN (nums r) (mpG l) i).length)], [(11, .box [.mp 27]), (27, .mp (dpA l)), (52, .row 2 ((ptN (nums r) (mpG l) i).map ita))]⟩

section
variable {G : Nat → Option (List AV)}

theorem explP_pc (hG : GC G) (r : List Iss) (lt : List Int) (n : Int) (h : Wf r) : PC Tryd.prog G 33 [rega r, .vsl (lt.map ia), .int .i64 n] (.tup [.vsl ((exV r lt n).1.map ita), .int .i64 (exV r lt n).2]) := by
  by_cases e : askV r lt n = 0
  case neg =>
    refine PC.nzR (v := .tup [.nils, .int .i64 (askV r lt n)]) ?_ (by simp [nz, exV, e])
    (refine pc_sheet_Explode (Nat.le_of_ble_eq_true rfl) fun R hG hrd => GO_AR mixed 1000 ?_; subst hG)
    simp -implicitDefEqProofs [rc_sheet_Explode, rr_sheet_Explode, rega]
    (first | refine CallK.of (taken_pc hG r lt n h) (by simp) ?_ | refine CallD.of (taken_pc hG r lt n h) (by simp) ?_)
    simp -implicitDefEqProofs [takA, e]
  obtain ⟨ho, hlt, hn⟩ := ask_0 e
  have hL := open_listed ho
  have hl := listed_20 hL
  have hp := add_pb (G := G) r lt ho hlt 6 n 1 [] hn (dpN_bd ho hn).2
  have hm := paM_eq (T := tkV r lt) (D := nums r) (fun d hd => let q := iss_kind (listed_iss hL (tk_mem hL hlt hd).1); ⟨q.1, q.2.2.2⟩) (fun d hd => tk_its hL hlt hd) 6 n 1 [] hn
  have e0 : mpG [] = fun _ => 0 := by funext x; rfl
  have ev : exV r lt n = (ptN (nums r) (mpG (paM (tkV r lt) 6 n 1 [])) (nums r).length, 0) := by rw [exV, if_pos e, hm, e0]
  rw [ev]
  generalize paM (tkV r lt) 6 n 1 [] = l at *
  refine PC.nzR (v := .tup [if ptN (nums r) (mpG l) (nums r).length = [] then .nils else .vsl ((ptN (nums r) (mpG l) (nums r).length).map ita), .int .i64 0]) ?_ (by split <;> simp_all [nz])
  (refine pc_sheet_Explode (Nat.le_of_ble_eq_true rfl) fun R hG hrd => GO_AR mixed 1000 ?_; subst hG)
  simp -implicitDefEqProofs [rc_sheet_Explode, rr_sheet_Explode, rega]
  (first | refine CallK.of (taken_pc hG r lt n h) (by simp) ?_ | refine CallD.of (taken_pc hG r lt n h) (by simp) ?_)
  simp -implicitDefEqProofs [takA, e, one_byA]
  unfold byA
  simp -implicitDefEqProofs []
  refine CallK.sem (CallSem.byref hp (fun k => k - 1000) (by simp [exO]) (by simp [exO]) (by simp [exO, St.get, lk, ren_dpA, AObj.ren, AV.ren, ren_byA, map_dpA, byA]; try simp [dpA]) (exO_in _ _ _) (by simp [exO, keptA, AV.keys, lk]) rfl (by simp [AV.ren]) rfl rfl) ?_
  simp -implicitDefEqProofs [setsB, exO, ren_dpA, AObj.ren, AV.ren, ren_byA, map_dpA, bkA]
  refine AR_for (ptP r l) (fun _ => True) (nums r).length ?_ trivial ?_ ?_
  · have e0 : ptN (nums r) (mpG l) 0 = [] := rfl
    simp only [ptP, e0, if_true]
    ((try simp only [byA]); refine Weak.sub (by simp [lk, keptA, AV.keys, byA]) ?_; simp only [byA, List.cons_append, List.nil_append, List.mem_cons, List.not_mem_nil, or_false, forall_eq_or_imp, forall_eq, kept_dpA, and_true]; (try simp [lk, keptO, keptA, AV.keys, byA]))
  · intro i hi _
    refine GO_AR mixed 1000 ?_
    have w1 : IntKind.i64.wrap ((i : Int) + 1) = ((i + 1 : Nat) : Int) := wrapI (by omega) (by omega)
    have gd := get_dp (nums r)[i] l
    have hs := ptN_succ (g := mpG l) hi
    have bl := ptN_len (nums r) (mpG l) i
    have bb : ((ptN (nums r) (mpG l) i).length + 1) * 16 ≤ 70368744177664 := by omega
    by_cases c : 0 < mpG l (nums r)[i]
    · have q : dpLk (nums r)[i] l = some (mpG l (nums r)[i]) := by
        unfold mpG dpG at c ⊢
        cases q : dpLk (nums r)[i] l <;> simp_all
      rw [q] at gd
      rw [if_pos c] at hs
      by_cases e : ptN (nums r) (mpG l) i = []
      · rw [e] at hs
        simp -implicitDefEqProofs [ptP, e, hi, ia, gd, c, w1, hs]
        ((try simp only [ita]); refine Weak.sub (by simp [lk, keptA, AV.keys, ita]) ?_; simp only [ita, List.cons_append, List.nil_append, List.mem_cons, List.not_mem_nil, or_false, forall_eq_or_imp, forall_eq, kept_dpA, ita_kept, and_true]; (try simp [lk, keptO, keptA, AV.keys, ita]))
      · simp -implicitDefEqProofs [ptP, e, hi, ia, gd, c, w1, hs, bb]
        ((try simp only [ita]); refine Weak.sub (by simp [lk, keptA, AV.keys, ita]) ?_; simp only [ita, List.cons_append, List.nil_append, List.mem_cons, List.not_mem_nil, or_false, forall_eq_or_imp, forall_eq, kept_dpA, ita_kept, and_true]; (try simp [lk, keptO, keptA, AV.keys, ita]))
    · rw [if_neg c] at hs
      have q : (dpLk (nums r)[i] l).getD 0 = mpG l (nums r)[i] := rfl
      generalize dpLk (nums r)[i] l = o at gd q
      by_cases e : ptN (nums r) (mpG l) i = [] <;> cases o
      · rw [e] at hs
        simp -implicitDefEqProofs [ptP, e, hi, ia, gd, w1, hs]
        ((try simp only [ita]); refine Weak.sub (by simp [lk, keptA, AV.keys, ita]) ?_; simp only [ita, List.cons_append, List.nil_append, List.mem_cons, List.not_mem_nil, or_false, forall_eq_or_imp, forall_eq, kept_dpA, ita_kept, and_true]; (try simp [lk, keptO, keptA, AV.keys, ita]))
      · rw [e] at hs
        obtain rfl : _ = mpG l (nums r)[i] := q
        simp -implicitDefEqProofs [ptP, e, hi, ia, gd, c, w1, hs]
        ((try simp only [ita]); refine Weak.sub (by simp [lk, keptA, AV.keys, ita]) ?_; simp only [ita, List.cons_append, List.nil_append, List.mem_cons, List.not_mem_nil, or_false, forall_eq_or_imp, forall_eq, kept_dpA, ita_kept, and_true]; (try simp [lk, keptO, keptA, AV.keys, ita]))
      · simp -implicitDefEqProofs [ptP, e, hi, ia, gd, w1, hs]
        ((try simp only [ita]); refine Weak.sub (by simp [lk, keptA, AV.keys, ita]) ?_; simp only [ita, List.cons_append, List.nil_append, List.mem_cons, List.not_mem_nil, or_false, forall_eq_or_imp, forall_eq, kept_dpA, ita_kept, and_true]; (try simp [lk, keptO, keptA, AV.keys, ita]))
      · obtain rfl : _ = mpG l (nums r)[i] := q
        simp -implicitDefEqProofs [ptP, e, hi, ia, gd, c, w1, hs]
        ((try simp only [ita]); refine Weak.sub (by simp [lk, keptA, AV.keys, ita]) ?_; simp only [ita, List.cons_append, List.nil_append, List.mem_cons, List.not_mem_nil, or_false, forall_eq_or_imp, forall_eq, kept_dpA, ita_kept, and_true]; (try simp [lk, keptO, keptA, AV.keys, ita]))
  · intro _
    refine GO_AR mixed 1000 ?_
    by_cases e : ptN (nums r) (mpG l) (nums r).length = []
    · simp -implicitDefEqProofs [ptP, e]
      refine GO_ret mixed 1000 ?_
      simp -implicitDefEqProofs [e]
    · have pu : ((ptN (nums r) (mpG l) (nums r).length).map ita).all (fun r => r.all AV.pure) = true := by simp [ita, AV.pure]
      simp -implicitDefEqProofs [ptP, e]
      refine GO_ret mixed 1000 ?_
      simp -implicitDefEqProofs [e, pu]
end
end Go.Proofs.YtdpmioiamcgfkaaDoor

/-! Trees: what the program's Tree computes. -/
namespace Go.Proofs.YtdpmioiamcgfkaaDoor
open Go.RowKit

theorem ren_bra (ρ : Nat → Nat) (l : List Brn) : (AObj.row 4 (l.map bra)).ren ρ = .row 4 (l.map bra) := by
  simp only [AObj.ren, List.map_map]
  congr 2; funext p; simp [bra, AV.ren]
theorem map_bra (ρ : Nat → Nat) (l : List Brn) : (l.map bra).map (fun r => r.map (AV.ren ρ)) = l.map bra := by
  simp only [List.map_map]
  congr 1; funext p; simp [bra, AV.ren]
theorem map_bra1 (ρ : Nat → Nat) (a : Brn) : (bra a).map (AV.ren ρ) = bra a := by simp [bra, AV.ren]
theorem comp_bra (ρ : Nat → Nat) : ((fun r : List AV => r.map (AV.ren ρ)) ∘ bra) = bra := by funext a; exact map_bra1 ρ a
theorem frz_bra (ok : Nat → Bool) (st : St) (l : List Brn) : frzO ok st (.row 4 (l.map bra)) = .row 4 (l.map bra) := by
  simp only [frzO, List.map_map]
  congr 2; funext p; simp [bra, frzA, frz, AV.keys]
theorem frz_b4 (st : St) {ok : Nat → Bool} {k n : Nat} (h : ok k = false) : frzO ok st (.box [.osl k n]) = .box [.osl k n] := by simp [frzO, frzA, frz, h]

/-- What Tree's own function is handed. -/
def grO (K : Nat) (r : List Iss) (lt : List Int) (l : List Brn) : List (Nat × AObj) :=
  [(1009, .box [byA r lt]), (1011, .box [.osl K l.length]), (1012, .box [.func (.func 80) [] [.ptr 1011 0, .ptr 1009 0, .ptr 1012 0]]), (K, .row 4 (l.map bra))]
/-- The same, where nothing is there yet. -/
def grZ (r : List Iss) (lt : List Int) : List (Nat × AObj) :=
  [(1009, .box [byA r lt]), (1011, .box [.nils]), (1012, .box [.func (.func 80) [] [.ptr 1011 0, .ptr 1009 0, .ptr 1012 0]])]
def grS (K : Nat) (r : List Iss) (lt : List Int) (dep : Int) (x : Iss) (l : List Brn) (i : Nat) : St := ⟨[(31, .int .i64 i), (30, .int .i64 x.its.length), (29, .vsl (x.its.map ita)), (0, .int .i64 dep), (4, .ptr 1012 0)], grO K r lt l⟩
theorem grO_in (r : List Iss) (lt : List Int) (l : List Brn) : ∀ p ∈ grO 1027 r lt l, keptO (grO 1027 r lt l) p.2 = true := by
  simp only [grO, List.mem_cons, List.not_mem_nil, or_false, forall_eq_or_imp, forall_eq, bra_kept, and_true]
  simp [lk, keptO, keptA, AV.keys, keys_byA]
theorem grZ_in (r : List Iss) (lt : List Int) : ∀ p ∈ grZ r lt, keptO (grZ r lt) p.2 = true := by
  simp only [grZ, List.mem_cons, List.not_mem_nil, or_false, forall_eq_or_imp, forall_eq]
  simp [lk, keptO, keptA, AV.keys, keys_byA]

section
variable {G : Nat → Option (List AV)}

theorem grow_pb (r : List Iss) (lt : List Int) (ho : openV r = 0) (hlt : ltB r lt = true) : ∀ (k : Nat) (n dep c : Int) (l : List Brn), n ∈ nums r → dpN r n ≤ k → 0 ≤ dep → dep + k ≤ 1000 → l.length ≤ 501 →
    PB Tryd.prog G 80 (grO 1027 r lt l) [.int .i64 dep, .agg [.int .i64 n, .int .i64 c], .ptr 1011 0, .ptr 1009 0, .ptr 1012 0] (.tup []) (grO 1027 r lt (grV (tkV r lt) k dep n c l))
  | 0, n, _, _, _, hn, hd, _, _, _ => (dp_pos ho hn hd).elim
  | k + 1, n, dep, c, l, hn, hd, hd0, hd1, h5 => by
    have hL := open_listed ho
    have wd : IntKind.i64.wrap (dep + 1) = dep + 1 := wrapI (by omega) (by omega)
    have hrec := fun y (hy : y ∈ (tkV r lt n).its) => fun l h5 => grow_pb r lt ho hlt k y.1 (dep + 1) y.2 l (dp_its ho hlt hn hd hy).1 (dp_its ho hlt hn hd hy).2 (by omega) (by omega) h5
    have gb := get_mp isA n (byN r lt (nums r).length)
    rw [byN_get hn] at gb
    have h8 := tk_8 ho hlt n hn
    have hxd := (tk_mem hL hlt hn).2
    rw [grV]
    by_cases c5 : 500 < l.length
    · have c5' : (500 : Int) < l.length := by omega
      rw [if_pos c5]
      (refine pb_sheet_Tree_1 (Nat.le_of_ble_eq_true rfl) fun R hG hrd => GO_AR mixed 1000 ?_; subst hG)
      simp -implicitDefEqProofs [rc_sheet_Tree_1, rr_sheet_Tree_1, grO, c5', FinB, frzSt, newK, frz_bra, frz_b1, frz_b4, frz_b3]
    have c5' : ¬ (500 : Int) < l.length := by omega
    rw [if_neg c5]
    generalize tkV r lt n = x at *
    subst hxd
    obtain ⟨l1, hl1⟩ : ∃ l1, l1 = l ++ [⟨dep, x.d, x.l, c⟩] := ⟨_, rfl⟩
    have hl1m : l1.map bra = l.map bra ++ [[.int .i64 dep, .int .i64 x.d, .int .i64 x.l, .int .i64 c]] := by rw [hl1, List.map_append]; rfl
    have hl1l : l1.length = l.length + 1 := by rw [hl1]; simp
    have b5 : (l.length + 1) * 32 ≤ 70368744177664 := by omega
    rw [← hl1]
    have fl5 : ∀ (its : List (Int × Int)) (l : List Brn), l.length ≤ 501 → (its.foldl (fun l y => grV (tkV r lt) k (dep + 1) y.1 y.2 l) l).length ≤ 501 := by
      intro its
      induction its with
      | nil => intro l h; exact h
      | cons y its ih => intro l h; exact ih _ (grV_501 k _ _ _ _ h)
    (refine pb_sheet_Tree_1 (Nat.le_of_ble_eq_true rfl) fun R hG hrd => GO_AR mixed 1000 ?_; subst hG)
    have key : ∀ (st : St), Weak st (grS 1027 r lt dep x l1 0) → AR Tryd.prog R (lastLp rc_sheet_Tree_1) st (RetP Tryd.prog R [KF.bk 0] (FinB [] (.tup []) (grO 1027 r lt (x.its.foldl (fun l y => grV (tkV r lt) k (dep + 1) y.1 y.2 l) l1)))) := by
      intro st hw
      refine AR_for (fun i => grS 1027 r lt dep x ((x.its.take i).foldl (fun l y => grV (tkV r lt) k (dep + 1) y.1 y.2 l) l1) i) (fun _ => True) x.its.length (by simpa using hw) trivial ?_ ?_
      · intro i hi _
        refine GO_AR mixed 1000 ?_
        have w1 : IntKind.i64.wrap ((i : Int) + 1) = ((i + 1 : Nat) : Int) := wrapI (by omega) (by omega)
        have ft := fold_take (fun l (y : Int × Int) => grV (tkV r lt) k (dep + 1) y.1 y.2 l) l1 x.its i hi
        have hr := hrec x.its[i] (List.getElem_mem hi) ((x.its.take i).foldl (fun l y => grV (tkV r lt) k (dep + 1) y.1 y.2 l) l1) (fl5 _ _ (by omega))
        generalize (x.its.take i).foldl (fun l y => grV (tkV r lt) k (dep + 1) y.1 y.2 l) l1 = l2 at *
        simp -implicitDefEqProofs [lastLp, rc_sheet_Tree_1, grS, grO, hi, ita, wd]
        refine CallK.sem (CallSem.byref hr id (by simp [grO]) (by simp [grO]) (by simp [grO, St.get, lk, AObj.ren, AV.ren, ren_byA, map_bra, map_bra1]) (grO_in _ _ _) (by simp [grO, keptA, AV.keys, lk]) rfl (by simp [AV.ren]) rfl rfl) ?_
        simp -implicitDefEqProofs [setsB, grO, AObj.ren, AV.ren, ren_byA, map_bra, map_bra1, w1]
        ((try simp only [grS, grO, byA, ft, map_bra1]); refine Weak.sub (by simp [lk, keptA, AV.keys, grS, grO, byA, ft, map_bra1]) ?_; simp only [grS, grO, byA, ft, map_bra1, List.cons_append, List.nil_append, List.mem_cons, List.not_mem_nil, or_false, forall_eq_or_imp, forall_eq, bra_kept, and_true]; (try simp [lk, keptO, keptA, AV.keys, grS, grO, byA, ft, map_bra1]))
      · intro _
        refine GO_AR mixed 1000 ?_
        simp -implicitDefEqProofs [lastLp, rc_sheet_Tree_1, grS, grO]
        refine GO_ret mixed 1000 ?_
        simp -implicitDefEqProofs [FinB, frzSt, newK, frz_bra, frz_b1, frz_b4, frz_b3, grO]
    simp -implicitDefEqProofs [rc_sheet_Tree_1, rr_sheet_Tree_1, grO, byA, gb, isA, isa, c5', b5]
    exact key _ (by simp only [← hl1m]; ((try simp only [grS, grO, byA, hl1l]); refine Weak.sub (by simp [lk, keptA, AV.keys, grS, grO, byA, hl1l]) ?_; simp only [grS, grO, byA, hl1l, List.cons_append, List.nil_append, List.mem_cons, List.not_mem_nil, or_false, forall_eq_or_imp, forall_eq, bra_kept, and_true]; (try simp [lk, keptO, keptA, AV.keys, grS, grO, byA, hl1l])))

/-- What stays at the end of Tree's own function, where the list has begun. -/
def okT : Nat → Bool := fun k => decide (k < 1000) && decide (k ≠ 27)
theorem grow0_pb (r : List Iss) (lt : List Int) (ho : openV r = 0) (hlt : ltB r lt = true) (k : Nat) (n dep c : Int) (hn : n ∈ nums r) (hd : dpN r n ≤ k + 1) (hd0 : 0 ≤ dep) (hd1 : dep + (k + 1 : Nat) ≤ 1000) :
    PB Tryd.prog G 80 (grZ r lt) [.int .i64 dep, .agg [.int .i64 n, .int .i64 c], .ptr 1011 0, .ptr 1009 0, .ptr 1012 0] (.tup []) (grO 27 r lt (grV (tkV r lt) (k + 1) dep n c [])) := by
  have hL := open_listed ho
  have wd : IntKind.i64.wrap (dep + 1) = dep + 1 := wrapI (by omega) (by omega)
  have hrec := fun y (hy : y ∈ (tkV r lt n).its) => fun l h5 => grow_pb (G := G) r lt ho hlt k y.1 (dep + 1) y.2 l (dp_its ho hlt hn hd hy).1 (dp_its ho hlt hn hd hy).2 (by omega) (by omega) h5
  have gb := get_mp isA n (byN r lt (nums r).length)
  rw [byN_get hn] at gb
  have h8 := tk_8 ho hlt n hn
  have hxd := (tk_mem hL hlt hn).2
  rw [grV, if_neg (by simp), List.nil_append]
  generalize tkV r lt n = x at *
  subst hxd
  obtain ⟨l1, hl1⟩ : ∃ l1 : List Brn, l1 = [⟨dep, x.d, x.l, c⟩] := ⟨_, rfl⟩
  have hl1m : l1.map bra = [[.int .i64 dep, .int .i64 x.d, .int .i64 x.l, .int .i64 c]] := by rw [hl1]; rfl
  have hl1l : l1.length = 1 := by rw [hl1]; simp
  rw [← hl1]
  have fl5 : ∀ (its : List (Int × Int)) (l : List Brn), l.length ≤ 501 → (its.foldl (fun l y => grV (tkV r lt) k (dep + 1) y.1 y.2 l) l).length ≤ 501 := by
    intro its
    induction its with
    | nil => intro l h; exact h
    | cons y its ih => intro l h; exact ih _ (grV_501 k _ _ _ _ h)
  refine PBo_of okT (by intro k hk; simp [okT] at hk; omega) Tryd.func80 rfl (by kernel_rfl) (rc := rc_sheet_Tree_1) (by kernel_rfl) (rs := rr_sheet_Tree_1) (by kernel_rfl) (Nat.le_of_ble_eq_true rfl) fun R _ hG hrd => GO_AR mixed 1000 ?_
  subst hG
  have key : ∀ (st : St), Weak st (grS 27 r lt dep x l1 0) → AR Tryd.prog R (lastLp rc_sheet_Tree_1) st (RetP Tryd.prog R [KF.bk 0] (FinO okT [] (.tup []) (grO 27 r lt (x.its.foldl (fun l y => grV (tkV r lt) k (dep + 1) y.1 y.2 l) l1)))) := by
    intro st hw
    refine AR_for (fun i => grS 27 r lt dep x ((x.its.take i).foldl (fun l y => grV (tkV r lt) k (dep + 1) y.1 y.2 l) l1) i) (fun _ => True) x.its.length (by simpa using hw) trivial ?_ ?_
    · intro i hi _
      refine GO_AR mixed 1000 ?_
      have w1 : IntKind.i64.wrap ((i : Int) + 1) = ((i + 1 : Nat) : Int) := wrapI (by omega) (by omega)
      have ft := fold_take (fun l (y : Int × Int) => grV (tkV r lt) k (dep + 1) y.1 y.2 l) l1 x.its i hi
      have hr := hrec x.its[i] (List.getElem_mem hi) ((x.its.take i).foldl (fun l y => grV (tkV r lt) k (dep + 1) y.1 y.2 l) l1) (fl5 _ _ (by omega))
      generalize (x.its.take i).foldl (fun l y => grV (tkV r lt) k (dep + 1) y.1 y.2 l) l1 = l2 at *
      simp -implicitDefEqProofs [lastLp, rc_sheet_Tree_1, grS, grO, hi, ita, wd]
      refine CallK.sem (CallSem.byref hr (fun k => if k = 1027 then 27 else k) (by simp [grO]) (by simp [grO]) (by simp [grO, St.get, lk, AObj.ren, AV.ren, ren_byA, map_bra, map_bra1]) (grO_in _ _ _) (by simp [grO, keptA, AV.keys, lk]) rfl (by simp [AV.ren]) rfl rfl) ?_
      simp -implicitDefEqProofs [setsB, grO, AObj.ren, AV.ren, ren_byA, map_bra, map_bra1, w1]
      ((try simp only [grS, grO, byA, ft, map_bra1]); refine Weak.sub (by simp [lk, keptA, AV.keys, grS, grO, byA, ft, map_bra1]) ?_; simp only [grS, grO, byA, ft, map_bra1, List.cons_append, List.nil_append, List.mem_cons, List.not_mem_nil, or_false, forall_eq_or_imp, forall_eq, bra_kept, and_true]; (try simp [lk, keptO, keptA, AV.keys, grS, grO, byA, ft, map_bra1]))
    · intro _
      refine GO_AR mixed 1000 ?_
      simp -implicitDefEqProofs [lastLp, rc_sheet_Tree_1, grS, grO]
      refine GO_ret mixed 1000 ?_
      simp -implicitDefEqProofs [FinO, frzSt, okT, frz_bra, frz_b1, frz_b4, frz_b3, grO]
  simp -implicitDefEqProofs [rc_sheet_Tree_1, rr_sheet_Tree_1, grZ, byA, gb, isA, isa]
  exact key _ (by simp only [← hl1m]; ((try simp only [grS, grO, byA, hl1l]); refine Weak.sub (by simp [lk, keptA, AV.keys, grS, grO, byA, hl1l]) ?_; simp only [grS, grO, byA, hl1l, List.cons_append, List.nil_append, List.mem_cons, List.not_mem_nil, or_false, forall_eq_or_imp, forall_eq, bra_kept, and_true]; (try simp [lk, keptO, keptA, AV.keys, grS, grO, byA, hl1l])))

theorem treeP_pc (hG : GC G) (r : List Iss) (lt : List Int) (n : Int) (h : Wf r) : PC Tryd.prog G 35 [rega r, .vsl (lt.map ia), .int .i64 n] (.tup [.vsl ((trE r lt n).1.map bra), .int .i64 (trE r lt n).2]) := by
  by_cases e : askV r lt n = 0
  case neg =>
    refine PC.nzR (v := .tup [.nils, .int .i64 (askV r lt n)]) ?_ (by simp [nz, trE, e])
    (refine pc_sheet_Tree (Nat.le_of_ble_eq_true rfl) fun R hG hrd => GO_AR mixed 1000 ?_; subst hG)
    simp -implicitDefEqProofs [rc_sheet_Tree, rr_sheet_Tree, rega]
    (first | refine CallK.of (taken_pc hG r lt n h) (by simp) ?_ | refine CallD.of (taken_pc hG r lt n h) (by simp) ?_)
    simp -implicitDefEqProofs [takA, e]
  obtain ⟨ho, hlt, hn⟩ := ask_0 e
  have hp := grow0_pb (G := G) r lt ho hlt 5 n 0 1 hn (dpN_bd ho hn).2 (Int.le_refl _) (by omega)
  obtain ⟨g1, g2⟩ := grV_eq (T := tkV r lt) 6 0 n 1 []
  have g3 := trV_brN (T := tkV r lt) 6 0 n 1
  rw [List.nil_append, g3] at g1 g2
  by_cases c : 500 < brN (tkV r lt) 6 n
  · have c' := g2 c
    refine PC.nzR (v := .tup [.nils, .int .i64 4]) ?_ (by simp [nz, trE, e, c])
    generalize grV (tkV r lt) 6 0 n 1 [] = l at *
    have c2 : (500 : Int) < l.length := by omega
    (refine pc_sheet_Tree (Nat.le_of_ble_eq_true rfl) fun R hG hrd => GO_AR mixed 1000 ?_; subst hG)
    simp -implicitDefEqProofs [rc_sheet_Tree, rr_sheet_Tree, rega]
    (first | refine CallK.of (taken_pc hG r lt n h) (by simp) ?_ | refine CallD.of (taken_pc hG r lt n h) (by simp) ?_)
    simp -implicitDefEqProofs [takA, e, one_byA]
    unfold byA
    simp -implicitDefEqProofs []
    refine CallK.sem (CallSem.refn hp (fun k => if 1000 ≤ k then k - 1000 else k) (by simp [grZ]) (by simp [grO]) (by simp [grZ, St.get, lk, AObj.ren, AV.ren, ren_byA, byA]) (grZ_in _ _) (by simp [grZ, keptA, AV.keys, lk]) (by simp [grZ, grO, isK, lk]) (by simp [grZ, grO, isK, lk, St.get]) (by simp [AV.ren]) rfl rfl) ?_
    simp -implicitDefEqProofs [setsB, grO, AObj.ren, AV.ren, ren_byA, map_bra, map_bra1, c2]
  · have c' := g1 (by omega)
    have ev : trE r lt n = (grV (tkV r lt) 6 0 n 1 [], 0) := by rw [trE, if_pos e, if_neg c, c']
    rw [ev]
    have lb : (grV (tkV r lt) 6 0 n 1 []).length ≤ 500 := by rw [c', g3]; omega
    generalize grV (tkV r lt) 6 0 n 1 [] = l at *
    have c2 : ¬ (500 : Int) < l.length := by omega
    have pu := (bra_all l).2.2
    (refine pc_sheet_Tree (Nat.le_of_ble_eq_true rfl) fun R hG hrd => GO_AR mixed 1000 ?_; subst hG)
    simp -implicitDefEqProofs [rc_sheet_Tree, rr_sheet_Tree, rega]
    (first | refine CallK.of (taken_pc hG r lt n h) (by simp) ?_ | refine CallD.of (taken_pc hG r lt n h) (by simp) ?_)
    simp -implicitDefEqProofs [takA, e, one_byA]
    unfold byA
    simp -implicitDefEqProofs []
    refine CallK.sem (CallSem.refn hp (fun k => if 1000 ≤ k then k - 1000 else k) (by simp [grZ]) (by simp [grO]) (by simp [grZ, St.get, lk, AObj.ren, AV.ren, ren_byA, byA]) (grZ_in _ _) (by simp [grZ, keptA, AV.keys, lk]) (by simp [grZ, grO, isK, lk]) (by simp [grZ, grO, isK, lk, St.get]) (by simp [AV.ren]) rfl rfl) ?_
    simp -implicitDefEqProofs [setsB, grO, AObj.ren, AV.ren, ren_byA, map_bra, map_bra1, comp_bra, c2, pu]
end
end Go.Proofs.YtdpmioiamcgfkaaDoor

/-! The abstract machine's code of functions of the program, as a program of ours printed it; that it is theirs is proved beside each. -/
namespace Go.Proofs.YtdpmioiamcgfkaaDoor
open Go.RowKit

def rc_law02_SheetTells : RCode :=
  .seq (.reg 0 false [ { d := some 3, op := .box (.t 0) }, { d := some 5, op := .box (.t 2) }, { d := some 6, op := .mov (.c (.bool false)) }]) (.seq
 (.seq (.reg 1 false [ { d := some 21, op := .load true 1 (.t 3) }, { d := some 22, op := .call 18 [.t 21] }]) (.cond (.t 22)
 (.seq (.reg 2 false [ { d := some 6, op := .mov (.c (.bool true)) }]) (.ret)) (.skip)))
 (.seq (.reg 3 false [ { d := some 23, op := .load true 1 (.t 3) }, { d := some 24, op := .call 19 [.t 23] }, { d := some 7, op := .alloc [.nils] }, { d := none, op := .store 1 (.t 7) (.t 24) }])
 (.seq (.reg 4 false [ { d := some 26, op := .load true 1 (.t 7) }, { d := some 27, op := .call 20 [.t 26] }, { d := some 25, op := .mov (.t 27) }, { d := some 28, op := .ext 0 (.t 25) }, { d := some 29, op := .ext 1 (.t 25) }, { d := some 8, op := .mov (.t 28) }, { d := some 9, op := .mov (.t 29) }])
 (.seq (.reg 5 false [ { d := some 31, op := .load true 1 (.t 3) }, { d := some 32, op := .call 21 [.t 31] }, { d := some 30, op := .mov (.t 32) }, { d := some 33, op := .ext 0 (.t 30) }, { d := some 34, op := .ext 1 (.t 30) }, { d := some 10, op := .mov (.t 33) }, { d := some 11, op := .mov (.t 34) }])
 (.seq (.reg 6 false [ { d := some 36, op := .load true 1 (.t 7) }, { d := some 37, op := .mov (.t 1) }, { d := some 38, op := .call 22 [.t 36, .t 37] }, { d := some 35, op := .mov (.t 38) }, { d := some 39, op := .ext 0 (.t 35) }, { d := some 40, op := .ext 1 (.t 35) }, { d := some 12, op := .mov (.t 39) }, { d := some 13, op := .mov (.t 40) }])
 (.seq (.reg 7 false [ { d := some 42, op := .load true 1 (.t 3) }, { d := some 43, op := .mov (.t 1) }, { d := some 44, op := .call 23 [.t 42, .t 43] }, { d := some 41, op := .mov (.t 44) }, { d := some 45, op := .ext 0 (.t 41) }, { d := some 46, op := .ext 1 (.t 41) }, { d := some 14, op := .mov (.t 45) }, { d := some 15, op := .mov (.t 46) }]) (.seq
 (.seq (.reg 8 true [ { d := some 47, op := .load true 1 (.t 7), aft := [] }, { d := some 48, op := .call 24 [.t 47], aft := [0] }, { d := some 49, op := .load true 1 (.t 3), aft := [] }, { d := some 50, op := .call 25 [.t 49], aft := [2, 1] }, { d := some 51, op := .bin .neq (.t 48) (.t 50), aft := [1, 3] }, { d := some 52, op := .mov (.t 51), aft := [4, 3] }, { d := some 53, op := .mov (.t 8), guard := some (52, false), aft := [5] }, { d := some 54, op := .mov (.t 10), guard := some (52, false), aft := [5] }, { d := some 55, op := .call 26 [.t 53, .t 54], guard := some (52, false), aft := [6, 7, 5, 5] }, { d := some 56, op := .un .not (.t 55), guard := some (52, false), aft := [8, 5] }, { d := some 57, op := .pick (.t 52) (.c (.bool true)) (.t 56), aft := [5, 9] }, { d := some 58, op := .mov (.t 57), aft := [10, 8] }, { d := some 59, op := .mov (.t 9), guard := some (58, false), aft := [11] }, { d := some 60, op := .mov (.t 11), guard := some (58, false), aft := [11] }, { d := some 61, op := .bin .neq (.t 59) (.t 60), guard := some (58, false), aft := [12, 13, 11] }, { d := some 62, op := .pick (.t 58) (.c (.bool true)) (.t 61), aft := [11, 14] }, { d := some 63, op := .mov (.t 62), aft := [15, 11] }, { d := some 64, op := .mov (.t 12), guard := some (63, false), aft := [16] }, { d := some 65, op := .mov (.t 14), guard := some (63, false), aft := [16] }, { d := some 66, op := .bin .neq (.t 64) (.t 65), guard := some (63, false), aft := [17, 18, 16] }, { d := some 67, op := .pick (.t 63) (.c (.bool true)) (.t 66), aft := [16, 19] }, { d := some 68, op := .mov (.t 67), aft := [20, 16] }, { d := some 69, op := .mov (.t 13), guard := some (68, false), aft := [21] }, { d := some 70, op := .mov (.t 15), guard := some (68, false), aft := [21] }, { d := some 71, op := .bin .neq (.t 69) (.t 70), guard := some (68, false), aft := [22, 23, 21] }, { d := some 72, op := .pick (.t 68) (.c (.bool true)) (.t 71), aft := [21, 24] }]) (.cond (.t 72)
 (.seq (.reg 9 false [ { d := some 6, op := .mov (.c (.bool false)) }]) (.ret)) (.skip)))
 (.seq (.reg 10 false [ { d := some 74, op := .load true 1 (.t 7) }, { d := some 75, op := .load true 2 (.t 5) }, { d := some 76, op := .call 27 [.t 74, .t 75] }, { d := some 73, op := .mov (.t 76) }, { d := some 77, op := .ext 0 (.t 73) }, { d := some 78, op := .ext 1 (.t 73) }, { d := some 16, op := .alloc [.int .i64 0, .int .i64 0, .int .u8 0, .nils, .nils] }, { d := none, op := .store 5 (.t 16) (.t 77) }, { d := some 9, op := .mov (.t 78) }])
 (.seq (.reg 11 false [ { d := some 80, op := .load true 1 (.t 3) }, { d := some 81, op := .load true 2 (.t 5) }, { d := some 82, op := .call 28 [.t 80, .t 81] }, { d := some 79, op := .mov (.t 82) }, { d := some 83, op := .ext 0 (.t 79) }, { d := some 84, op := .ext 1 (.t 79) }, { d := some 17, op := .alloc [.int .i64 0, .int .i64 0, .int .u8 0, .nils, .nils] }, { d := none, op := .store 5 (.t 17) (.t 83) }, { d := some 11, op := .mov (.t 84) }])
 (.seq (.reg 12 false [ { d := some 86, op := .load true 1 (.t 7) }, { d := some 87, op := .mov (.t 1) }, { d := some 88, op := .call 29 [.t 86, .t 87] }, { d := some 85, op := .mov (.t 88) }, { d := some 89, op := .ext 0 (.t 85) }, { d := some 90, op := .ext 1 (.t 85) }, { d := some 12, op := .mov (.t 89) }, { d := some 13, op := .mov (.t 90) }])
 (.seq (.reg 13 false [ { d := some 92, op := .load true 1 (.t 3) }, { d := some 93, op := .mov (.t 1) }, { d := some 94, op := .call 30 [.t 92, .t 93] }, { d := some 91, op := .mov (.t 94) }, { d := some 95, op := .ext 0 (.t 91) }, { d := some 96, op := .ext 1 (.t 91) }, { d := some 14, op := .mov (.t 95) }, { d := some 15, op := .mov (.t 96) }])
 (.seq (.reg 14 false [ { d := some 97, op := .load true 5 (.t 16) }, { d := some 98, op := .load true 5 (.t 17) }, { d := some 99, op := .call 31 [.t 97, .t 98] }, { d := some 100, op := .mov (.t 99) }, { d := some 101, op := .mov (.t 9), guard := some (100, true) }, { d := some 102, op := .mov (.t 11), guard := some (100, true) }, { d := some 103, op := .bin .eql (.t 101) (.t 102), guard := some (100, true) }, { d := some 104, op := .pick (.t 100) (.t 103) (.c (.bool false)) }, { d := some 105, op := .mov (.t 104) }, { d := some 106, op := .mov (.t 12), guard := some (105, true) }, { d := some 107, op := .mov (.t 14), guard := some (105, true) }, { d := some 108, op := .bin .eql (.t 106) (.t 107), guard := some (105, true) }, { d := some 109, op := .pick (.t 105) (.t 108) (.c (.bool false)) }, { d := some 110, op := .mov (.t 109) }, { d := some 111, op := .mov (.t 13), guard := some (110, true) }, { d := some 112, op := .mov (.t 15), guard := some (110, true) }, { d := some 113, op := .bin .eql (.t 111) (.t 112), guard := some (110, true) }, { d := some 114, op := .pick (.t 110) (.t 113) (.c (.bool false)) }, { d := some 18, op := .mov (.t 114) }]) (.seq
 (.seq (.reg 15 false [ { d := some 115, op := .faddr 3 (.t 16) }, { d := some 116, op := .load false 1 (.t 115) }, { d := some 117, op := .len (.t 116) }, { d := some 118, op := .mov (.c (.int .i64 0)) }]) (.block 0 (.loop
 (.seq (.reg 16 false [ { d := some 119, op := .bin .lss (.t 118) (.t 117) }]) (.seq (.cond (.t 119) (.skip) (.exit 0)) (.seq (.block 1
 (.seq (.reg 17 false [ { d := some 120, op := .mov (.t 118) }, { d := some 19, op := .mov (.t 120) }]) (.reg 18 false [ { d := some 121, op := .faddr 3 (.t 16) }, { d := some 122, op := .load false 1 (.t 121) }, { d := some 123, op := .mov (.t 19) }, { d := some 124, op := .iaddr 2 (.t 122) (.t 123) }, { d := some 125, op := .faddr 1 (.t 124) }, { d := none, op := .store 1 (.t 125) (.c (.int .i64 0)) }]))) (.reg 19 false [ { d := some 126, op := .bin .add (.t 118) (.c (.int .i64 1)) }, { d := some 118, op := .mov (.t 126) }]))))))) (.seq
 (.seq (.reg 20 false [ { d := some 127, op := .faddr 4 (.t 16) }, { d := some 128, op := .load false 1 (.t 127) }, { d := some 129, op := .len (.t 128) }, { d := some 130, op := .mov (.c (.int .i64 0)) }]) (.block 2 (.loop
 (.seq (.reg 21 false [ { d := some 131, op := .bin .lss (.t 130) (.t 129) }]) (.seq (.cond (.t 131) (.skip) (.exit 2)) (.seq (.block 3
 (.seq (.reg 22 false [ { d := some 132, op := .mov (.t 130) }, { d := some 20, op := .mov (.t 132) }]) (.reg 23 false [ { d := some 133, op := .faddr 4 (.t 16) }, { d := some 134, op := .load false 1 (.t 133) }, { d := some 135, op := .mov (.t 20) }, { d := some 136, op := .iaddr 3 (.t 134) (.t 135) }, { d := some 137, op := .faddr 1 (.t 136) }, { d := none, op := .store 1 (.t 137) (.c (.int .i64 (-7))) }]))) (.reg 24 false [ { d := some 138, op := .bin .add (.t 130) (.c (.int .i64 1)) }, { d := some 130, op := .mov (.t 138) }])))))))
 (.seq (.reg 25 false [ { d := some 139, op := .mov (.t 18) }, { d := some 140, op := .mov (.t 139) }, { d := some 141, op := .load true 1 (.t 7), guard := some (140, true) }, { d := some 142, op := .load true 1 (.t 3), guard := some (140, true) }, { d := some 143, op := .call 32 [.t 141, .t 142], guard := some (140, true) }, { d := some 144, op := .pick (.t 140) (.t 143) (.c (.bool false)) }, { d := some 6, op := .mov (.t 144) }]) (.ret))))))))))))))))
def rr_law02_SheetTells : List RRes := [.t 6]
theorem pc_law02_SheetTells {G : Nat → Option (List AV)} {args : List AV} {v : AV} (hn : args.length ≤ Tryd.f3.ntmps) (h : ∀ R : Run, R.G = G → R.Top → AR Tryd.prog R rc_law02_SheetTells (initSt args) (Fin rr_law02_SheetTells v)) : PC Tryd.prog G 3 args v :=
  PC_of Tryd.func3 rfl (by kernel_rfl) (rc := rc_law02_SheetTells) (by kernel_rfl) (rs := rr_law02_SheetTells) (by kernel_rfl) hn (fun R _ hG hr => h R hG hr)

end Go.Proofs.YtdpmioiamcgfkaaDoor

/-! The law SheetTells, by the abstract machine. -/
namespace Go.Proofs.YtdpmioiamcgfkaaDoor
open Go.RowKit

/-- The items, the first of which are struck. -/
def zR (l : List (Int × Int)) (i : Nat) : List (List AV) := (l.take i).map (fun p => [.int .i64 p.1, .int .i64 0]) ++ (l.drop i).map ita
theorem zR_len (l : List (Int × Int)) (i : Nat) : (zR l i).length = l.length := by simp [zR]; omega
theorem zR_get {l : List (Int × Int)} {i : Nat} (h : i < l.length) : (zR l i)[i]? = some [.int .i64 l[i].1, .int .i64 l[i].2] := by
  have e : ((l.take i).map (fun p => ([.int .i64 p.1, .int .i64 0] : List AV))).length = i := by simp; omega
  rw [zR, List.getElem?_append_right (by omega), e, Nat.sub_self, List.drop_eq_getElem_cons h]; rfl
theorem zR_at {l : List (Int × Int)} {i : Nat} (h : i < l.length) (h2 : i < (zR l i).length) : (zR l i)[i] = [.int .i64 l[i].1, .int .i64 l[i].2] := by
  have := zR_get h
  rw [List.getElem?_eq_getElem h2] at this
  exact Option.some.inj this
theorem zR_set {l : List (Int × Int)} {i : Nat} (h : i < l.length) : (zR l i).set i [.int .i64 l[i].1, .int .i64 0] = zR l (i + 1) := by
  have e : ((l.take i).map (fun p => ([.int .i64 p.1, .int .i64 0] : List AV))).length = i := by simp; omega
  rw [zR, List.set_append_right _ _ (by omega), e, Nat.sub_self, List.drop_eq_getElem_cons h, zR, List.take_succ_eq_append_getElem h, List.map_cons, List.set_cons_zero, List.map_append, List.append_assoc]; rfl
theorem zR_0 (l : List (Int × Int)) : zR l 0 = l.map ita := by simp [zR]
theorem zR_kept {l : List (Int × Int)} {i : Nat} (o : List (Nat × AObj)) : keptO o (.row 2 (zR l i)) = true := by
  simp only [keptO, List.all_eq_true, zR, List.mem_append, List.mem_map]
  rintro x (⟨y, -, rfl⟩ | ⟨y, -, rfl⟩) v hv
  · simp only [List.mem_cons, List.not_mem_nil, or_false] at hv
    rcases hv with rfl | rfl <;> simp [keptA, AV.keys]
  · simp only [ita, List.mem_cons, List.not_mem_nil, or_false] at hv
    rcases hv with rfl | rfl <;> simp [keptA, AV.keys]
/-- The sizes, the first of which are struck. -/
def wR (l : List Dm) (i : Nat) : List (List AV) := (l.take i).map (fun p => [.int .i64 p.n, .int .i64 (-7), .int .i64 p.u]) ++ (l.drop i).map dma
theorem wR_len (l : List Dm) (i : Nat) : (wR l i).length = l.length := by simp [wR]; omega
theorem wR_get {l : List Dm} {i : Nat} (h : i < l.length) : (wR l i)[i]? = some [.int .i64 l[i].n, .int .i64 l[i].l, .int .i64 l[i].u] := by
  have e : ((l.take i).map (fun p => ([.int .i64 p.n, .int .i64 (-7), .int .i64 p.u] : List AV))).length = i := by simp; omega
  rw [wR, List.getElem?_append_right (by omega), e, Nat.sub_self, List.drop_eq_getElem_cons h]; rfl
theorem wR_at {l : List Dm} {i : Nat} (h : i < l.length) (h2 : i < (wR l i).length) : (wR l i)[i] = [.int .i64 l[i].n, .int .i64 l[i].l, .int .i64 l[i].u] := by
  have := wR_get h
  rw [List.getElem?_eq_getElem h2] at this
  exact Option.some.inj this
theorem wR_set {l : List Dm} {i : Nat} (h : i < l.length) : (wR l i).set i [.int .i64 l[i].n, .int .i64 (-7), .int .i64 l[i].u] = wR l (i + 1) := by
  have e : ((l.take i).map (fun p => ([.int .i64 p.n, .int .i64 (-7), .int .i64 p.u] : List AV))).length = i := by simp; omega
  rw [wR, List.set_append_right _ _ (by omega), e, Nat.sub_self, List.drop_eq_getElem_cons h, wR, List.take_succ_eq_append_getElem h, List.map_cons, List.set_cons_zero, List.map_append, List.append_assoc]; rfl
theorem wR_0 (l : List Dm) : wR l 0 = l.map dma := by simp [wR]
theorem wR_kept {l : List Dm} {i : Nat} (o : List (Nat × AObj)) : keptO o (.row 3 (wR l i)) = true := by
  simp only [keptO, List.all_eq_true, wR, List.mem_append, List.mem_map]
  rintro x (⟨y, -, rfl⟩ | ⟨y, -, rfl⟩) v hv
  · simp only [List.mem_cons, List.not_mem_nil, or_false] at hv
    rcases hv with rfl | rfl | rfl <;> simp [keptA, AV.keys]
  · simp only [dma, List.mem_cons, List.not_mem_nil, or_false] at hv
    rcases hv with rfl | rfl | rfl <;> simp [keptA, AV.keys]
section
variable {G : Nat → Option (List AV)}

theorem atP_pc (hG : GC G) (r : List Iss) (d l : Int) (h : Wf r) (hn : openV r ≠ 0 ∨ findN d l r = none) : PC Tryd.prog G 27 [rega r, .agg [.int .i64 d, .int .i64 l]] (.tup [.agg (isa (atP r d l).1), .int .i64 (atP r d l).2]) := by
  by_cases e : openV r = 0
  · have hf : findN d l r = none := hn.resolve_left fun h => h e
    refine PC.nzR (v := .tup [.agg [.int .i64 0, .int .i64 0, .int .u8 0, .nils, .nils], .int .i64 6]) ?_ (by simp [nz, atP, e, hf, zI, isa])
    (refine pc_sheet_At (Nat.le_of_ble_eq_true rfl) fun R hG hrd => GO_AR mixed 1000 ?_; subst hG)
    have hL := open_listed e
    have hO := ord_of hL
    simp -implicitDefEqProofs [rc_sheet_At, rr_sheet_At, rega]
    (first | refine CallK.of (open_pc hG r h) (by simp) ?_ | refine CallD.of (open_pc hG r h) (by simp) ?_)
    simp -implicitDefEqProofs [openA, e]
    (first | refine CallK.of (find_pcS r (nums r) d l (ord_map hO) h.1.1 (find_own hL)) (by simp) ?_ | refine CallD.of (find_pcS r (nums r) d l (ord_map hO) h.1.1 (find_own hL)) (by simp) ?_)
    simp -implicitDefEqProofs [hf, fndA, noIs]
  · refine PC.nzR (v := .tup [.agg [.int .i64 0, .int .i64 0, .int .u8 0, .nils, .nils], .int .i64 (openV r)]) ?_ (by simp [nz, atP, e, zI, isa])
    (refine pc_sheet_At (Nat.le_of_ble_eq_true rfl) fun R hG hrd => GO_AR mixed 1000 ?_; subst hG)
    simp -implicitDefEqProofs [rc_sheet_At, rr_sheet_At, rega]
    (first | refine CallK.of (open_pc hG r h) (by simp) ?_ | refine CallD.of (open_pc hG r h) (by simp) ?_)
    simp -implicitDefEqProofs [openA, e]

theorem tells_pc (hG : GC G) (r : List Iss) (n d l : Int) (h : Wf r) : PC Tryd.prog G 3 [rega r, .int .i64 n, .agg [.int .i64 d, .int .i64 l]] (.bool true) := by
  (refine pc_law02_SheetTells (Nat.le_of_ble_eq_true rfl) fun R hG hrd => GO_AR mixed 1000 ?_; subst hG)
  simp -implicitDefEqProofs [rc_law02_SheetTells, rr_law02_SheetTells, rega]
  (first | refine CallK.of (great_pc r h.1.1) (by simp) ?_ | refine CallD.of (great_pc r h.1.1) (by simp) ?_)
  cases g : greatB r
  case true => simp -implicitDefEqProofs []
  simp -implicitDefEqProofs []
  (first | refine CallK.of (twin_pc r h.1) (by simp) ?_ | refine CallD.of (twin_pc r h.1) (by simp) ?_)
  simp -implicitDefEqProofs [rega]
  (first | refine CallK.of (drawP_pc hG r h) (by simp) ?_ | refine CallD.of (drawP_pc hG r h) (by simp) ?_)
  simp -implicitDefEqProofs []
  (first | refine CallK.of (drawR_pc r h) (by simp) ?_ | refine CallD.of (drawR_pc r h) (by simp) ?_)
  simp -implicitDefEqProofs []
  (first | refine CallK.of (lastP_pc hG r n h) (by simp) ?_ | refine CallD.of (lastP_pc hG r n h) (by simp) ?_)
  simp -implicitDefEqProofs []
  (first | refine CallK.of (lastR_pc r n h) (by simp) ?_ | refine CallD.of (lastR_pc r n h) (by simp) ?_)
  rw [draw_eq, last_eq]
  simp -implicitDefEqProofs []
  (first | refine CallK.of (checkP_pc hG r h) (by simp) ?_ | refine CallD.of (checkP_pc hG r h) (by simp) ?_)
  simp -implicitDefEqProofs []
  (first | refine CallK.of (checkR_pc r h) (by simp) ?_ | refine CallD.of (checkR_pc r h) (by simp) ?_)
  rw [← open_chk]
  simp -implicitDefEqProofs []
  (first | refine CallK.of (sameInts_pc _ _ (by split; exact nums_sml h.1.1; simp [Sml])) (by simp) ?_ | refine CallD.of (sameInts_pc _ _ (by split; exact nums_sml h.1.1; simp [Sml])) (by simp) ?_)
  simp -implicitDefEqProofs []
  refine ⟨rfl, ?_⟩
  have hx : Sml (atP r d l).1.its ∧ Sml (atP r d l).1.dms := by
    unfold atP
    split
    · split
      · rename_i x hf; exact h.1.2 x (findN_mem hf).1
      · simp [zI, Sml]
    · simp [zI, Sml]
  by_cases ok : openV r = 0 ∧ (findN d l r).isSome = true
  case neg =>
    have ok2 : openV r ≠ 0 ∨ findN d l r = none := by
      by_cases q : openV r = 0
      · exact .inr (by cases hf : findN d l r with
          | none => rfl
          | some x => exact absurd ⟨q, by rw [hf]; rfl⟩ ok)
      · exact .inl q
    have hp := atP_pc hG r d l h ok2
    have e1 : (atP r d l).1.its = [] := by
      unfold atP
      rcases ok2 with q | q
      · rw [if_neg q]; rfl
      · split <;> (try rw [q]) <;> rfl
    have e2 : (atP r d l).1.dms = [] := by
      unfold atP
      rcases ok2 with q | q
      · rw [if_neg q]; rfl
      · split <;> (try rw [q]) <;> rfl
    obtain ⟨⟨x, c⟩, ev⟩ : ∃ v, atP r d l = v := ⟨_, rfl⟩
    rw [ev] at hp hx e1 e2
    simp only at hp hx e1 e2
    have k5 : (x.its.map ita).all (fun r => r.all AV.pure) = true := by simp [ita, AV.pure]
    have k6 : (x.dms.map dma).all (fun r => r.all AV.pure) = true := by simp [dma, AV.pure]
    refine CallK.of hp (by simp) ?_
    simp -implicitDefEqProofs [isa, e1, e2]
    (first | refine CallK.of (atR_pc r d l h) (by simp) ?_ | refine CallD.of (atR_pc r d l h) (by simp) ?_)
    rw [at_eqV, ev]
    simp -implicitDefEqProofs [isa, e1, e2]
    (first | refine CallK.of (depthP_pc hG r n h) (by simp) ?_ | refine CallD.of (depthP_pc hG r n h) (by simp) ?_)
    simp -implicitDefEqProofs []
    (first | refine CallK.of (depthR_pc r n h) (by simp) ?_ | refine CallD.of (depthR_pc r n h) (by simp) ?_)
    rw [dep_eq]
    simp -implicitDefEqProofs []
    refine CallK.flat (sameIssue_pc x x hx.1 hx.2) (by simp [AV.flat]) (by simp [isa, snapF, snapL, e1, e2]) ?_
    simp -implicitDefEqProofs []
    refine AR_for (fun i => ⟨[(118, .int .i64 i), (117, .int .i64 x.its.length), (16, .ptr 16 0), (18, .bool true), (7, .ptr 7 0), (3, .ptr 3 0)], [(3, .box [.vsl (r.map isa)]), (7, .box [.vsl (r.map isa)]), (16, .box [.int .i64 x.d, .int .i64 x.l, .int .u8 x.k, .vsl [], .vsl []])]⟩) (fun _ => True) x.its.length (by (try simp only [zR_0, wR_0]); exact Weak.sub (by simp [lk, keptA, AV.keys, e1, e2]) (by simp [lk, keptO, keptA, AV.keys])) trivial ?_ ?_
    · intro i hi _
      rw [e1] at hi; exact absurd hi (Nat.not_lt_zero _)
    intro _
    refine GO_AR mixed 1000 ?_
    simp -implicitDefEqProofs []
    refine GO_ret mixed 1000 ?_
    simp -implicitDefEqProofs []
    refine AR_for (fun i => ⟨[(130, .int .i64 i), (129, .int .i64 x.dms.length), (16, .ptr 16 0), (18, .bool true), (7, .ptr 7 0), (3, .ptr 3 0)], [(3, .box [.vsl (r.map isa)]), (7, .box [.vsl (r.map isa)]), (16, .box [.int .i64 x.d, .int .i64 x.l, .int .u8 x.k, .vsl [], .vsl []])]⟩) (fun _ => True) x.dms.length (by (try simp only [wR_0]); exact Weak.sub (by simp [lk, keptA, AV.keys, e1, e2]) (by simp only [List.mem_cons, List.not_mem_nil, or_false, forall_eq_or_imp, forall_eq]; simp [lk, keptO, keptA, AV.keys])) trivial ?_ ?_
    · intro i hi _
      rw [e2] at hi; exact absurd hi (Nat.not_lt_zero _)
    intro _
    refine GO_AR mixed 1000 ?_
    simp -implicitDefEqProofs []
    refine GO_ret mixed 1000 ?_
    simp -implicitDefEqProofs []
    (first | refine CallK.of (same_pc r r h.1) (by simp) ?_ | refine CallD.of (same_pc r r h.1) (by simp) ?_)
    simp -implicitDefEqProofs []

  have hp := atP_pb hG r d l h ok.1 ok.2
  obtain ⟨⟨x, c⟩, ev⟩ : ∃ v, atP r d l = v := ⟨_, rfl⟩
  rw [ev] at hp hx
  simp only at hp hx
  have k5 : (x.its.map ita).all (fun r => r.all AV.pure) = true := by simp [ita, AV.pure]
  have k6 : (x.dms.map dma).all (fun r => r.all AV.pure) = true := by simp [dma, AV.pure]
  by_cases e1 : x.its = [] <;> by_cases e2 : x.dms = []
  · refine CallK.sem (CallSem.objs hp id (by simp [owQ, owO, e1, e2]) (by simp [owQ, owO, e1, e2, St.get, lk]) (by simp) rfl rfl) ?_
    simp -implicitDefEqProofs [owI, owQ, owV, owO, setsB, AV.ren, e1, e2]
    (first | refine CallK.of (atR_pc r d l h) (by simp) ?_ | refine CallD.of (atR_pc r d l h) (by simp) ?_)
    rw [at_eqV, ev]
    simp -implicitDefEqProofs [isa, e1, e2]
    (first | refine CallK.of (depthP_pc hG r n h) (by simp) ?_ | refine CallD.of (depthP_pc hG r n h) (by simp) ?_)
    simp -implicitDefEqProofs []
    (first | refine CallK.of (depthR_pc r n h) (by simp) ?_ | refine CallD.of (depthR_pc r n h) (by simp) ?_)
    rw [dep_eq]
    simp -implicitDefEqProofs []
    refine CallK.flat (sameIssue_pc x x hx.1 hx.2) (by simp [AV.flat]) (by simp [isa, snapF, snapL, e1, e2]) ?_
    simp -implicitDefEqProofs []
    refine AR_for (fun i => ⟨[(118, .int .i64 i), (117, .int .i64 x.its.length), (16, .ptr 16 0), (18, .bool true), (7, .ptr 7 0), (3, .ptr 3 0)], [(3, .box [.vsl (r.map isa)]), (7, .box [.vsl (r.map isa)]), (16, .box [.int .i64 x.d, .int .i64 x.l, .int .u8 x.k, .vsl [], .vsl []])]⟩) (fun _ => True) x.its.length (by (try simp only [zR_0, wR_0]); exact Weak.sub (by simp [lk, keptA, AV.keys, e1, e2]) (by simp [lk, keptO, keptA, AV.keys])) trivial ?_ ?_
    · intro i hi _
      rw [e1] at hi; exact absurd hi (Nat.not_lt_zero _)
    intro _
    refine GO_AR mixed 1000 ?_
    simp -implicitDefEqProofs []
    refine GO_ret mixed 1000 ?_
    simp -implicitDefEqProofs []
    refine AR_for (fun i => ⟨[(130, .int .i64 i), (129, .int .i64 x.dms.length), (16, .ptr 16 0), (18, .bool true), (7, .ptr 7 0), (3, .ptr 3 0)], [(3, .box [.vsl (r.map isa)]), (7, .box [.vsl (r.map isa)]), (16, .box [.int .i64 x.d, .int .i64 x.l, .int .u8 x.k, .vsl [], .vsl []])]⟩) (fun _ => True) x.dms.length (by (try simp only [wR_0]); exact Weak.sub (by simp [lk, keptA, AV.keys, e1, e2]) (by simp only [List.mem_cons, List.not_mem_nil, or_false, forall_eq_or_imp, forall_eq]; simp [lk, keptO, keptA, AV.keys])) trivial ?_ ?_
    · intro i hi _
      rw [e2] at hi; exact absurd hi (Nat.not_lt_zero _)
    intro _
    refine GO_AR mixed 1000 ?_
    simp -implicitDefEqProofs []
    refine GO_ret mixed 1000 ?_
    simp -implicitDefEqProofs []
    (first | refine CallK.of (same_pc r r h.1) (by simp) ?_ | refine CallD.of (same_pc r r h.1) (by simp) ?_)
    simp -implicitDefEqProofs []
  · refine CallK.sem (CallSem.objs hp id (by simp [owQ, owO, e1, e2]) (by simp [owQ, owO, e1, e2, St.get, lk]) (by simp) rfl rfl) ?_
    simp -implicitDefEqProofs [owI, owQ, owV, owO, setsB, ren_rowD, AV.ren, e1, e2]
    (first | refine CallK.of (atR_pc r d l h) (by simp) ?_ | refine CallD.of (atR_pc r d l h) (by simp) ?_)
    rw [at_eqV, ev]
    simp -implicitDefEqProofs [isa, e1]
    (first | refine CallK.of (depthP_pc hG r n h) (by simp) ?_ | refine CallD.of (depthP_pc hG r n h) (by simp) ?_)
    simp -implicitDefEqProofs []
    (first | refine CallK.of (depthR_pc r n h) (by simp) ?_ | refine CallD.of (depthR_pc r n h) (by simp) ?_)
    rw [dep_eq]
    simp -implicitDefEqProofs []
    refine CallK.flat (sameIssue_pc x x hx.1 hx.2) (by simp [AV.flat]) (by simp [isa, k6, snapF, snapL, St.get, lk, e1]) ?_
    simp -implicitDefEqProofs []
    refine AR_for (fun i => ⟨[(118, .int .i64 i), (117, .int .i64 x.its.length), (16, .ptr 16 0), (18, .bool true), (7, .ptr 7 0), (3, .ptr 3 0)], [(3, .box [.vsl (r.map isa)]), (7, .box [.vsl (r.map isa)]), (16, .box [.int .i64 x.d, .int .i64 x.l, .int .u8 x.k, .vsl [], .osl 1008 x.dms.length]), (1008, .row 3 (wR x.dms 0))]⟩) (fun _ => True) x.its.length (by (try simp only [wR_0]); exact Weak.sub (by simp [lk, keptA, AV.keys, e1, e2]) (by simp [lk, keptO, keptA, AV.keys, dma])) trivial ?_ ?_
    · intro i hi _
      rw [e1] at hi; exact absurd hi (Nat.not_lt_zero _)
    intro _
    refine GO_AR mixed 1000 ?_
    simp -implicitDefEqProofs []
    refine GO_ret mixed 1000 ?_
    simp -implicitDefEqProofs [wR_len]
    refine AR_for (fun i => ⟨[(130, .int .i64 i), (129, .int .i64 x.dms.length), (16, .ptr 16 0), (18, .bool true), (7, .ptr 7 0), (3, .ptr 3 0)], [(3, .box [.vsl (r.map isa)]), (7, .box [.vsl (r.map isa)]), (16, .box [.int .i64 x.d, .int .i64 x.l, .int .u8 x.k, .vsl [], .osl 1008 x.dms.length]), (1008, .row 3 (wR x.dms i))]⟩) (fun _ => True) x.dms.length (by (try simp only [wR_0]); exact Weak.sub (by simp [lk, keptA, AV.keys, e1, e2]) (by simp only [List.mem_cons, List.not_mem_nil, or_false, forall_eq_or_imp, forall_eq]; simp [lk, keptO, keptA, AV.keys, dma])) trivial ?_ ?_
    · intro i hi _
      refine GO_AR mixed 1000 ?_
      have h2 := hx.2
      unfold Sml at h2
      have w1 : IntKind.i64.wrap ((i : Int) + 1) = ((i + 1 : Nat) : Int) := wrapI (by omega) (by omega)
      have zl := wR_len x.dms i
      have za := wR_at hi (by omega)
      have zs := wR_set hi
      simp -implicitDefEqProofs [hi, w1, zl, za, zs]
      exact Weak.sub (by simp [lk, keptA, AV.keys]) (by simp only [List.mem_cons, List.not_mem_nil, or_false, forall_eq_or_imp, forall_eq, wR_kept, and_true]; simp [lk, keptO, keptA, AV.keys])
    intro _
    refine GO_AR mixed 1000 ?_
    simp -implicitDefEqProofs []
    refine GO_ret mixed 1000 ?_
    simp -implicitDefEqProofs []
    (first | refine CallK.of (same_pc r r h.1) (by simp) ?_ | refine CallD.of (same_pc r r h.1) (by simp) ?_)
    simp -implicitDefEqProofs []
  · refine CallK.sem (CallSem.objs hp id (by simp [owQ, owO, e1, e2]) (by simp [owQ, owO, e1, e2, St.get, lk]) (by simp) rfl rfl) ?_
    simp -implicitDefEqProofs [owI, owQ, owV, owO, setsB, ren_rowI, AV.ren, e1, e2]
    (first | refine CallK.of (atR_pc r d l h) (by simp) ?_ | refine CallD.of (atR_pc r d l h) (by simp) ?_)
    rw [at_eqV, ev]
    simp -implicitDefEqProofs [isa, e2]
    (first | refine CallK.of (depthP_pc hG r n h) (by simp) ?_ | refine CallD.of (depthP_pc hG r n h) (by simp) ?_)
    simp -implicitDefEqProofs []
    (first | refine CallK.of (depthR_pc r n h) (by simp) ?_ | refine CallD.of (depthR_pc r n h) (by simp) ?_)
    rw [dep_eq]
    simp -implicitDefEqProofs []
    refine CallK.flat (sameIssue_pc x x hx.1 hx.2) (by simp [AV.flat]) (by simp [isa, k5, snapF, snapL, St.get, lk, e2]) ?_
    simp -implicitDefEqProofs []
    refine AR_for (fun i => ⟨[(118, .int .i64 i), (117, .int .i64 x.its.length), (16, .ptr 16 0), (18, .bool true), (7, .ptr 7 0), (3, .ptr 3 0)], [(3, .box [.vsl (r.map isa)]), (7, .box [.vsl (r.map isa)]), (16, .box [.int .i64 x.d, .int .i64 x.l, .int .u8 x.k, .osl 1005 x.its.length, .vsl []]), (1005, .row 2 (zR x.its i))]⟩) (fun _ => True) x.its.length (by (try simp only [zR_0]); exact Weak.sub (by simp [lk, keptA, AV.keys, e1, e2]) (by simp [lk, keptO, keptA, AV.keys, ita])) trivial ?_ ?_
    · intro i hi _
      refine GO_AR mixed 1000 ?_
      have h1 := hx.1
      unfold Sml at h1
      have w1 : IntKind.i64.wrap ((i : Int) + 1) = ((i + 1 : Nat) : Int) := wrapI (by omega) (by omega)
      have zl := zR_len x.its i
      have za := zR_at hi (by omega)
      have zs := zR_set hi
      simp -implicitDefEqProofs [hi, w1, zl, za, zs]
      exact Weak.sub (by simp [lk, keptA, AV.keys]) (by simp only [List.mem_cons, List.not_mem_nil, or_false, forall_eq_or_imp, forall_eq, zR_kept, and_true]; simp [lk, keptO, keptA, AV.keys])
    intro _
    refine GO_AR mixed 1000 ?_
    simp -implicitDefEqProofs []
    refine GO_ret mixed 1000 ?_
    simp -implicitDefEqProofs []
    refine AR_for (fun i => ⟨[(130, .int .i64 i), (129, .int .i64 x.dms.length), (16, .ptr 16 0), (18, .bool true), (7, .ptr 7 0), (3, .ptr 3 0)], [(3, .box [.vsl (r.map isa)]), (7, .box [.vsl (r.map isa)]), (16, .box [.int .i64 x.d, .int .i64 x.l, .int .u8 x.k, .osl 1005 x.its.length, .vsl []]), (1005, .row 2 (zR x.its x.its.length))]⟩) (fun _ => True) x.dms.length (by (try simp only [wR_0]); exact Weak.sub (by simp [lk, keptA, AV.keys, e1, e2]) (by simp only [List.mem_cons, List.not_mem_nil, or_false, forall_eq_or_imp, forall_eq, zR_kept, and_true]; simp [lk, keptO, keptA, AV.keys])) trivial ?_ ?_
    · intro i hi _
      rw [e2] at hi; exact absurd hi (Nat.not_lt_zero _)
    intro _
    refine GO_AR mixed 1000 ?_
    simp -implicitDefEqProofs []
    refine GO_ret mixed 1000 ?_
    simp -implicitDefEqProofs []
    (first | refine CallK.of (same_pc r r h.1) (by simp) ?_ | refine CallD.of (same_pc r r h.1) (by simp) ?_)
    simp -implicitDefEqProofs []
  · refine CallK.sem (CallSem.objs hp id (by simp [owQ, owO, e1, e2]) (by simp [owQ, owO, e1, e2, St.get, lk]) (by simp) rfl rfl) ?_
    simp -implicitDefEqProofs [owI, owQ, owV, owO, setsB, ren_rowI, ren_rowD, AV.ren, e1, e2]
    (first | refine CallK.of (atR_pc r d l h) (by simp) ?_ | refine CallD.of (atR_pc r d l h) (by simp) ?_)
    rw [at_eqV, ev]
    simp -implicitDefEqProofs [isa]
    (first | refine CallK.of (depthP_pc hG r n h) (by simp) ?_ | refine CallD.of (depthP_pc hG r n h) (by simp) ?_)
    simp -implicitDefEqProofs []
    (first | refine CallK.of (depthR_pc r n h) (by simp) ?_ | refine CallD.of (depthR_pc r n h) (by simp) ?_)
    rw [dep_eq]
    simp -implicitDefEqProofs []
    refine CallK.flat (sameIssue_pc x x hx.1 hx.2) (by simp [AV.flat]) (by simp [isa, k5, k6, snapF, snapL, St.get, lk]) ?_
    simp -implicitDefEqProofs []
    refine AR_for (fun i => ⟨[(118, .int .i64 i), (117, .int .i64 x.its.length), (16, .ptr 16 0), (18, .bool true), (7, .ptr 7 0), (3, .ptr 3 0)], [(3, .box [.vsl (r.map isa)]), (7, .box [.vsl (r.map isa)]), (16, .box [.int .i64 x.d, .int .i64 x.l, .int .u8 x.k, .osl 1005 x.its.length, .osl 1008 x.dms.length]), (1005, .row 2 (zR x.its i)), (1008, .row 3 (wR x.dms 0))]⟩) (fun _ => True) x.its.length (by (try simp only [zR_0, wR_0]); exact Weak.sub (by simp [lk, keptA, AV.keys, e1, e2]) (by simp [lk, keptO, keptA, AV.keys, ita, dma])) trivial ?_ ?_
    · intro i hi _
      refine GO_AR mixed 1000 ?_
      have h1 := hx.1
      unfold Sml at h1
      have w1 : IntKind.i64.wrap ((i : Int) + 1) = ((i + 1 : Nat) : Int) := wrapI (by omega) (by omega)
      have zl := zR_len x.its i
      have za := zR_at hi (by omega)
      have zs := zR_set hi
      simp -implicitDefEqProofs [hi, w1, zl, za, zs]
      exact Weak.sub (by simp [lk, keptA, AV.keys]) (by simp only [List.mem_cons, List.not_mem_nil, or_false, forall_eq_or_imp, forall_eq, zR_kept, wR_kept, and_true]; simp [lk, keptO, keptA, AV.keys])
    intro _
    refine GO_AR mixed 1000 ?_
    simp -implicitDefEqProofs []
    refine GO_ret mixed 1000 ?_
    simp -implicitDefEqProofs [wR_len]
    refine AR_for (fun i => ⟨[(130, .int .i64 i), (129, .int .i64 x.dms.length), (16, .ptr 16 0), (18, .bool true), (7, .ptr 7 0), (3, .ptr 3 0)], [(3, .box [.vsl (r.map isa)]), (7, .box [.vsl (r.map isa)]), (16, .box [.int .i64 x.d, .int .i64 x.l, .int .u8 x.k, .osl 1005 x.its.length, .osl 1008 x.dms.length]), (1005, .row 2 (zR x.its x.its.length)), (1008, .row 3 (wR x.dms i))]⟩) (fun _ => True) x.dms.length (by (try simp only [wR_0]); exact Weak.sub (by simp [lk, keptA, AV.keys, e1, e2]) (by simp only [List.mem_cons, List.not_mem_nil, or_false, forall_eq_or_imp, forall_eq, zR_kept, and_true]; simp [lk, keptO, keptA, AV.keys, dma])) trivial ?_ ?_
    · intro i hi _
      refine GO_AR mixed 1000 ?_
      have h2 := hx.2
      unfold Sml at h2
      have w1 : IntKind.i64.wrap ((i : Int) + 1) = ((i + 1 : Nat) : Int) := wrapI (by omega) (by omega)
      have zl := wR_len x.dms i
      have za := wR_at hi (by omega)
      have zs := wR_set hi
      simp -implicitDefEqProofs [hi, w1, zl, za, zs]
      exact Weak.sub (by simp [lk, keptA, AV.keys]) (by simp only [List.mem_cons, List.not_mem_nil, or_false, forall_eq_or_imp, forall_eq, zR_kept, wR_kept, and_true]; simp [lk, keptO, keptA, AV.keys])
    intro _
    refine GO_AR mixed 1000 ?_
    simp -implicitDefEqProofs []
    refine GO_ret mixed 1000 ?_
    simp -implicitDefEqProofs []
    (first | refine CallK.of (same_pc r r h.1) (by simp) ?_ | refine CallD.of (same_pc r r h.1) (by simp) ?_)
    simp -implicitDefEqProofs []
end
end Go.Proofs.YtdpmioiamcgfkaaDoor

/-! What the rows of layer 2 share: the list of checks as the rows list it; registers that came in. -/
namespace Go.Proofs.YtdpmioiamcgfkaaDoor
open Go.ChangeShapes Go.WideShapes Go.ChangeAt Go.WideMaps Go.WideElems Go.RowKit Go.Deep

theorem own : ownKnob Tryd.prog.godebug = none := by kernel_rfl
theorem laidOut : laidOutB Tryd.prog = true := by kernel_rfl
theorem gChecks : Tryd.prog.globalNamed "blueline/sheet.checks" = some 0 := by kernel_rfl
theorem tChecks : (Tryd.prog.globals[0]?).map (·.type) = some 159 := by kernel_rfl

/-- The rows' list of variables. -/
def laid2 : List (String × DataW Unit) := [("blueline/sheet.checks", Rows.laid_blueline_sheet_checks)]

/-- The door's own heap meets the condition. -/
theorem door_met (os : Os) (args : Array Value) : laidMetH Tryd.prog laid2 ((World.doorLaid Tryd.prog 41 os).forCall (fun _ _ => 0) ⟨#[], args, []⟩).memory :=
  laidMetH_of_parts3 (fuel := 8) (laidMet_of_run' 8 (by kernel_rfl) (by kernel_rfl)) (by kernel_rfl) (by kernel_rfl)

theorem cF : Tryd.prog.cellsOf 157 = 1 := by kernel_rfl
theorem checkC : Tryd.prog.cellsOf 158 = 1 := by kernel_rfl

/-- The block of the checks. -/
def ChkB (W : World) : Prop := ∃ t fr, W.heap[0]? = some (.cells #[.func (.func 157) #[] #[], .func (.func 158) #[] #[], .func (.func 159) #[] #[], .func (.func 160) #[] #[]] t fr)

theorem list4 {α : Type} {l : List α} (h : l.length = 4) : ∃ c0 c1 c2 c3, l = [c0, c1, c2, c3] := by
  match l, h with
  | [c0, c1, c2, c3], _ => exact ⟨c0, c1, c2, c3, rfl⟩

theorem cell_func {W : World} {fuel : Nat} {c : Value} {y : DataW (List UInt8) × List MemPlace} {b : UInt8} {s : List UInt8} {f0 : FuncId} (hone : ((List.range Tryd.prog.funcs.size).filter fun f => (Tryd.prog.funcs[f]?).any (·.name.toUTF8.data.toList == b :: s)) = [f0])
    (h : DataW.trod (funcToken Tryd.prog) Tryd.prog W 0 (fun _ => true) true fuel 158 [c] = some y) (hy : y.1 = .agg [.held (b :: s)]) : c = .func (.func f0) #[] #[] := by
  obtain ⟨y0, n, rfl, -, h0⟩ := trod_struct1 Tryd.underlying158 h
  simp only [List.drop_zero] at h0
  rw [cF] at h0
  simp only [DataW.agg.injEq, List.cons.injEq, and_true] at hy
  exact func_of_trod (q := y0.2) Tryd.underlying157 hone (by rw [← hy]; simpa using h0)

set_option maxRecDepth 100000 in
theorem of_laid {W : World} (h : laidMetH Tryd.prog laid2 W) : ChkB W := by
  obtain ⟨g, t, cs, fuel, p, hg, ht, hv, hd⟩ := h.funcs (List.mem_singleton.2 rfl)
  obtain rfl := Option.some.inj (gChecks.symm.trans hg)
  obtain rfl := Option.some.inj (tChecks.symm.trans ht)
  have hd' : DataW.trod (funcToken Tryd.prog) Tryd.prog W 0 (fun _ => true) true fuel 159 cs.toList = some (.agg [.agg [.held [98, 108, 117, 101, 108, 105, 110, 101, 47, 115, 104, 101, 101, 116, 46, 99, 104, 101, 99, 107, 115, 36, 49]], .agg [.held [98, 108, 117, 101, 108, 105, 110, 101, 47, 115, 104, 101, 101, 116, 46, 99, 104, 101, 99, 107, 115, 36, 50]], .agg [.held [98, 108, 117, 101, 108, 105, 110, 101, 47, 115, 104, 101, 101, 116, 46, 99, 104, 101, 99, 107, 115, 36, 51]], .agg [.held [98, 108, 117, 101, 108, 105, 110, 101, 47, 115, 104, 101, 101, 116, 46, 99, 104, 101, 99, 107, 115, 36, 52]]], p) := hd
  obtain ⟨xs, m, rfl, hx, hlen, hn, hel⟩ := DataW.trod_array Tryd.underlying159 hd'
  have hlen4 : cs.toList.length = 4 := hlen.trans (by kernel_rfl)
  obtain ⟨c0, c1, c2, c3, hcs⟩ := list4 hlen4
  rw [hcs] at hel
  have e0 := hel 0 (by decide)
  have e1 := hel 1 (by decide)
  have e2 := hel 2 (by decide)
  have e3 := hel 3 (by decide)
  rw [checkC] at e0 e1 e2 e3
  match xs, hn, hx, e0, e1, e2, e3 with
  | [x0, x1, x2, x3], _, hx, e0, e1, e2, e3 =>
    simp only [Prod.mk.injEq] at hx
    have hx := hx.1
    simp only [List.map_cons, List.map_nil, DataW.agg.injEq, List.cons.injEq] at hx
    obtain ⟨hx0, hx1, hx2, hx3, -⟩ := hx
    have g0 := cell_func (f0 := 157) (by kernel_rfl) e0 hx0.symm
    have g1 := cell_func (f0 := 158) (by kernel_rfl) e1 hx1.symm
    have g2 := cell_func (f0 := 159) (by kernel_rfl) e2 hx2.symm
    have g3 := cell_func (f0 := 160) (by kernel_rfl) e3 hx3.symm
    have hcs2 : cs = #[c0, c1, c2, c3] := by rw [← Array.toArray_toList (xs := cs), hcs]
    rw [g0, g1, g2, g3] at hcs2
    simp only [World.var?, gChecks, Option.bind_some] at hv
    split at hv
    · rename_i cs' t fr heq
      injection hv with hv
      exact ⟨t, fr, by rw [heq, hv, hcs2]⟩
    · cases hv

/-- The program's variables that the walks look at. -/
def G2 : Nat → Option (List AV) := fun g => if g = 0 then some [.func (.func 157) [] [], .func (.func 158) [] [], .func (.func 159) [] [], .func (.func 160) [] []] else none
theorem gc_of : GC G2 := rfl
theorem gr_of {W : World} (h : ChkB W) : GR G2 noM W := by
  obtain ⟨t, fr, hb⟩ := h
  intro g cs hg
  simp only [G2] at hg
  split at hg <;> simp only [Option.some.injEq, reduceCtorEq] at hg
  rename_i e
  subst e; subst hg
  refine .vptr _ 0 0 0 (fun j => ((#[.func (.func 157) #[] #[], .func (.func 158) #[] #[], .func (.func 159) #[] #[], .func (.func 160) #[] #[]] : Array Value)[j]?).getD undef) (Array.getElem?_eq_some_iff.1 hb).1 id ?_ ?_
  · intro j hj
    have hj' : j < 4 := by simpa using hj
    simp only [World.cell?, hb]
    match j, hj' with
    | 0, _ => rfl
    | 1, _ => rfl
    | 2, _ => rfl
    | 3, _ => rfl
  · intro j x hx
    have hfn : ∀ fn : Fn, PV noM W (.func fn [] []) (.func fn #[] #[]) := fun fn => .func fn [] [] #[] #[] rfl rfl (by simp) (by simp)
    match j, hx with
    | 0, hx => cases hx; exact hfn _
    | 1, hx => cases hx; exact hfn _
    | 2, hx => cases hx; exact hfn _
    | 3, hx => cases hx; exact hfn _

/-- What a law's contract says of a call from outside. -/
theorem law_calls {P : Program} {G : Nat → Option (List AV)} {f : FuncId} {args : List AV} {W : World} {vs : Array Value} (h : PC P G f args (.bool true)) (hG : GR G noM W) (hs : vs.size = args.length)
    (hv : ∀ (i : Nat) (x : AV) (u : Value), args[i]? = some x → vs[i]? = some u → PV noM W x u) : Calls P f vs W fun e W' => e = .returned (.bool true) ∧ Ext W W' :=
  (h.2 noM W vs (fun _ h => h.elim) hG hs hv).mono fun e W' ⟨v, h1, h2, h3⟩ => by
    cases h2
    exact ⟨h1, h3⟩

/-! Registers that came in. -/
def itK : List TY := [.int .i64, .int .i64]
def dmK : List TY := [.int .i64, .int .i64, .int .i64]
def isK2 : List TY := [.int .i64, .int .i64, .int .u8, .sl itK, .sl dmK]
theorem pair_inv {xs : List AV} (h : TVs itK xs) : ∃ p : Int × Int, xs = ita p := by
  obtain ⟨x0, _, rfl, h0, h⟩ := h.cons_inv
  obtain ⟨x1, _, rfl, h1, h⟩ := h.cons_inv
  obtain rfl := h.nil_inv
  obtain ⟨n, rfl, -⟩ := h0.int_inv
  obtain ⟨l, rfl, -⟩ := h1.int_inv
  exact ⟨(n, l), rfl⟩
theorem dm_inv {xs : List AV} (h : TVs dmK xs) : ∃ d : Dm, xs = dma d := by
  obtain ⟨x0, _, rfl, h0, h⟩ := h.cons_inv
  obtain ⟨x1, _, rfl, h1, h⟩ := h.cons_inv
  obtain ⟨x2, _, rfl, h2, h⟩ := h.cons_inv
  obtain rfl := h.nil_inv
  obtain ⟨n, rfl, -⟩ := h0.int_inv
  obtain ⟨l, rfl, -⟩ := h1.int_inv
  obtain ⟨u, rfl, -⟩ := h2.int_inv
  exact ⟨⟨n, l, u⟩, rfl⟩
def KOk (x : Iss) : Prop := 0 ≤ x.k ∧ x.k ≤ 255
theorem iss_inv {xs : List AV} (h : TVs isK2 xs) : ∃ x : Iss, xs = isa x ∧ KOk x := by
  obtain ⟨x0, _, rfl, h0, h⟩ := h.cons_inv
  obtain ⟨x1, _, rfl, h1, h⟩ := h.cons_inv
  obtain ⟨x2, _, rfl, h2, h⟩ := h.cons_inv
  obtain ⟨x3, _, rfl, h3, h⟩ := h.cons_inv
  obtain ⟨x4, _, rfl, h4, h⟩ := h.cons_inv
  obtain rfl := h.nil_inv
  obtain ⟨n, rfl, -⟩ := h0.int_inv
  obtain ⟨l, rfl, -⟩ := h1.int_inv
  obtain ⟨k, rfl, hk⟩ := h2.int_inv
  obtain ⟨r3, rfl, -, g3⟩ := h3.sl_inv
  obtain ⟨r4, rfl, -, g4⟩ := h4.sl_inv
  obtain ⟨its, rfl⟩ := rows_map (f := ita) fun r hr => pair_inv (g3 r hr)
  obtain ⟨dms, rfl⟩ := rows_map (f := dma) fun r hr => dm_inv (g4 r hr)
  exact ⟨⟨n, l, k, its, dms⟩, rfl, bounds_u8 hk⟩
theorem rows_mapP {α β : Type} {f : α → β} {p : α → Prop} {rows : List β} (h : ∀ r ∈ rows, ∃ d, r = f d ∧ p d) : ∃ l : List α, rows = l.map f ∧ ∀ x ∈ l, p x := by
  induction rows with
  | nil => exact ⟨[], rfl, by simp⟩
  | cons r rows ih =>
    obtain ⟨d, rfl, hd⟩ := h r (List.mem_cons_self ..)
    obtain ⟨l, rfl, hl⟩ := ih fun r hr => h r (List.mem_cons_of_mem _ hr)
    exact ⟨d :: l, rfl, fun x hx => by
      rcases List.mem_cons.1 hx with rfl | hx
      · exact hd
      · exact hl x hx⟩
theorem reg_inv {xs : List AV} (h : TVs [.sl isK2] xs) : ∃ r : List Iss, AV.agg xs = rega r ∧ ∀ x ∈ r, KOk x := by
  obtain ⟨x0, _, rfl, h0, h⟩ := h.cons_inv
  obtain rfl := h.nil_inv
  obtain ⟨rows, rfl, -, g⟩ := h0.sl_inv
  obtain ⟨r, rfl, hr⟩ := rows_mapP (f := isa) (p := KOk) fun r hr => iss_inv (g r hr)
  exact ⟨r, rfl, hr⟩

theorem greatA_pc {G : Nat → Option (List AV)} (r : List Iss) : PC Tryd.prog G 18 [rega r] (.bool (greatB r)) := by
  by_cases h1 : 80 < r.length
  · (refine pc_ref02_Great (Nat.le_of_ble_eq_true rfl) fun R hG hrd => GO_AR mixed 1000 ?_; subst hG)
    have h1' : (80 : Int) < r.length := by omega
    simp -implicitDefEqProofs [rc_ref02_Great, rr_ref02_Great, rega, h1', greatB, h1]
  · exact great_pc r (by unfold Sml; omega)
theorem great_wf {r : List Iss} (h : greatB r = false) (hk : ∀ x ∈ r, KOk x) : Wf r := by
  simp only [greatB, Bool.or_eq_false_iff, decide_eq_false_iff_not, List.any_eq_false, Bool.or_eq_true, decide_eq_true_eq, not_or] at h
  exact ⟨⟨by unfold Sml; omega, fun x hx => by have := h.2 x hx; unfold Sml; omega⟩, hk⟩
theorem tellsA_pc {G : Nat → Option (List AV)} (hG : GC G) (r : List Iss) (n d l : Int) (hk : ∀ x ∈ r, KOk x) : PC Tryd.prog G 3 [rega r, .int .i64 n, .agg [.int .i64 d, .int .i64 l]] (.bool true) := by
  cases g : greatB r
  · exact tells_pc hG r n d l (great_wf g hk)
  · (refine pc_law02_SheetTells (Nat.le_of_ble_eq_true rfl) fun R hG hrd => GO_AR mixed 1000 ?_; subst hG)
    simp -implicitDefEqProofs [rc_law02_SheetTells, rr_law02_SheetTells, rega]
    (first | refine CallK.of (greatA_pc r) (by simp) ?_ | refine CallD.of (greatA_pc r) (by simp) ?_)
    simp -implicitDefEqProofs [g]
end Go.Proofs.YtdpmioiamcgfkaaDoor

/-! The law SheetParts, by the abstract machine. -/
namespace Go.Proofs.YtdpmioiamcgfkaaDoor
open Go.RowKit

theorem exV_eqR {r : List Iss} {lt : List Int} {n : Int} : Sml (exV r lt n).1 := by
  unfold exV Sml
  split
  · have := ptN_len (nums r) (paV (tkV r lt) 6 n 1 fun _ => 0) (nums r).length
    have := listed_20 (open_listed (ask_0 ‹_›).1)
    simp only; omega
  · simp
theorem trE_sml {r : List Iss} {lt : List Int} {n : Int} : Sml (trE r lt n).1 := by
  unfold trE Sml
  split
  · split
    · simp
    · rename_i h
      simp only [trV_brN]; omega
  · simp

theorem GO0r {P : Program} {R : Run} {e : Exit} {Φ : Exit → St → Prop} {st : St} (h : Φ e st) : GO P R 0 (.out e) [] Φ st := h
/-- What stands behind the first four parts. -/
def rest3 : RCode → RCode
  | .seq _ (.seq _ (.seq _ b)) => b
  | c => c

section
variable {G : Nat → Option (List AV)}

theorem parts_pc (hG : GC G) (r : List Iss) (lt : List Int) (n : Int) (hk : ∀ x ∈ r, KOk x) : PC Tryd.prog G 4 [rega r, .vsl (lt.map ia), .int .i64 n] (.bool true) := by
  refine pc_law02_SheetParts (Nat.le_of_ble_eq_true rfl) fun R hG hrd => GO_AR mixed 13 ?_
  subst hG
  simp -implicitDefEqProofs [rc_law02_SheetParts, rr_law02_SheetParts, rega]
  (first | refine CallK.of (greatA_pc r) (by simp) ?_ | refine CallD.of (greatA_pc r) (by simp) ?_)
  cases g : greatB r
  case true =>
    simp -implicitDefEqProofs []
    refine GO0r ?_
    simp -implicitDefEqProofs []
  have h := great_wf g hk
  by_cases c8 : 80 < lt.length
  · have c8' : (80 : Int) < lt.length := by omega
    simp -implicitDefEqProofs [c8']
    refine GO0r ?_
    simp -implicitDefEqProofs []
  have c8' : ¬ (80 : Int) < lt.length := by omega
  simp -implicitDefEqProofs [c8']
  (first | refine CallK.of (twin_pc r h.1) (by simp) ?_ | refine CallD.of (twin_pc r h.1) (by simp) ?_)
  have b8 : lt.length * 8 ≤ 70368744177664 := by omega
  have k1 : (lt.map ia).all (fun r => r.length == 1) = true := by simp [ia]
  have k2 : (lt.map ia).all (fun r => r.all AV.one) = true := by simp [ia, AV.one]
  have k3 : (lt.map ia).all (fun r => r.all AV.pure) = true := by simp [ia, AV.pure]
  have key : ∀ st : St, Weak st ⟨[(8, .vsl (lt.map ia)), (7, .ptr 7 0), (3, .ptr 3 0), (1, .vsl (lt.map ia)), (2, .int .i64 n)], [(3, .box [.vsl (r.map isa)]), (7, .box [.vsl (r.map isa)])]⟩ →
      AR Tryd.prog R (rest3 rc_law02_SheetParts) st (RetP Tryd.prog R [] (Fin rr_law02_SheetParts (.bool true))) := by
    intro st hw
    refine AR_weak hw (GO_run mixed 1000 ?_)
    simp -implicitDefEqProofs [rest3, rc_law02_SheetParts, rr_law02_SheetParts]
    (first | refine CallK.of (explP_pc hG r lt n h) (by simp) ?_ | refine CallD.of (explP_pc hG r lt n h) (by simp) ?_)
    simp -implicitDefEqProofs []
    (first | refine CallK.of (explR_pc r lt n h) (by simp) ?_ | refine CallD.of (explR_pc r lt n h) (by simp) ?_)
    simp -implicitDefEqProofs []
    (first | refine CallK.of (treeP_pc hG r lt n h) (by simp) ?_ | refine CallD.of (treeP_pc hG r lt n h) (by simp) ?_)
    simp -implicitDefEqProofs []
    (first | refine CallK.of (treeR_pc r lt n h) (by simp) ?_ | refine CallD.of (treeR_pc r lt n h) (by simp) ?_)
    simp -implicitDefEqProofs []
    (first | refine CallK.of (sameItems_pc _ _ exV_eqR) (by simp) ?_ | refine CallD.of (sameItems_pc _ _ exV_eqR) (by simp) ?_)
    simp -implicitDefEqProofs []
    (first | refine CallK.of (sameBr_pc _ _ trE_sml) (by simp) ?_ | refine CallD.of (sameBr_pc _ _ trE_sml) (by simp) ?_)
    simp -implicitDefEqProofs []
    (first | refine CallK.of (same_pc r r h.1) (by simp) ?_ | refine CallD.of (same_pc r r h.1) (by simp) ?_)
    simp -implicitDefEqProofs []
    (first | refine CallK.of (sameInts_pc lt lt (by unfold Sml; omega)) (by simp) ?_ | refine CallD.of (sameInts_pc lt lt (by unfold Sml; omega)) (by simp) ?_)
    simp -implicitDefEqProofs []
  by_cases e0 : lt = []
  · subst e0
    simp -implicitDefEqProofs [rega]
    refine GO0 (key _ (Weak.trans (Weak.frz (fun k => k == 26) _) ?_))
    ((try simp only [frzSt, frzA, frzO, frz, snapF, snapL, St.get]); refine Weak.sub (by simp [lk, keptA, AV.keys, frzSt, frzA, frzO, frz, snapF, snapL, St.get]) ?_; simp only [frzSt, frzA, frzO, frz, snapF, snapL, St.get, List.cons_append, List.nil_append, List.mem_cons, List.not_mem_nil, or_false, forall_eq_or_imp, forall_eq, and_true, and_true]; (try simp [lk, keptO, keptA, AV.keys, frzSt, frzA, frzO, frz, snapF, snapL, St.get]))
  · simp -implicitDefEqProofs [rega, e0, b8, k1, k2]
    refine GO0 (key _ (Weak.trans (Weak.frz (fun k => k == 26) _) ?_))
    ((try simp only [frzSt, frzA, frzO, frz, snapF, snapL, St.get, k3]); refine Weak.sub (by simp [lk, keptA, AV.keys, frzSt, frzA, frzO, frz, snapF, snapL, St.get, k3]) ?_; simp only [frzSt, frzA, frzO, frz, snapF, snapL, St.get, k3, List.cons_append, List.nil_append, List.mem_cons, List.not_mem_nil, or_false, forall_eq_or_imp, forall_eq, and_true, and_true]; (try simp [lk, keptO, keptA, AV.keys, frzSt, frzA, frzO, frz, snapF, snapL, St.get, k3]))
end
end Go.Proofs.YtdpmioiamcgfkaaDoor

/-! Lists of numbers that came in. -/
namespace Go.Proofs.YtdpmioiamcgfkaaDoor
open Go.RowKit

theorem one_inv {xs : List AV} (h : TVs [.int .i64] xs) : ∃ n : Int, xs = ia n := by
  obtain ⟨x0, _, rfl, h0, h⟩ := h.cons_inv
  obtain rfl := h.nil_inv
  obtain ⟨n, rfl, -⟩ := h0.int_inv
  exact ⟨n, rfl⟩
end Go.Proofs.YtdpmioiamcgfkaaDoor
