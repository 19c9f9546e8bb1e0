/-
  How the program opens a register, by the abstract machine.
-/
import Derived.Test.YtdpmioiamcgfkaaDoorRcD
import Derived.Test.YtdpmioiamcgfkaaDoorEh
namespace Go.Proofs.YtdpmioiamcgfkaaDoor
open Go.RowKit

/-- The program's list of checks. -/
def GC (G : Nat → Option (List AV)) : Prop := G 0 = some [.func (.func 157) [] [], .func (.func 158) [] [], .func (.func 159) [] [], .func (.func 160) [] []]
def ckN (x : Iss) : Nat → Bool
  | 0 => ck1 x
  | 1 => ck2 x
  | 2 => ck3 x
  | _ => ck4 x
theorem issB_ckN {x : Iss} (h : ∀ j, j < 4 → ckN x j = true) : issB x = true := by
  rw [issB_ck, show ck1 x = true from h 0 (by omega), show ck2 x = true from h 1 (by omega), show ck3 x = true from h 2 (by omega), show ck4 x = true from h 3 (by omega)]; rfl
theorem issB_ckF {x : Iss} {j : Nat} (hj : j < 4) (h : ckN x j = false) : issB x = false := by
  rw [issB_ck]
  have : j = 0 ∨ j = 1 ∨ j = 2 ∨ j = 3 := by omega
  rcases this with rfl | rfl | rfl | rfl <;> simp only [ckN] at h <;> simp [h]

/-- The error that opening returns. -/
def openV (r : List Iss) : Int := if listedB r = true then
    if 0 < (dRun r (nums r).length).2.length then 21 else if (∃ p ∈ (dRun r (nums r).length).1, 6 < p.2) then 20 else 0
  else 20
def openA (r : List Iss) : AV := .tup [if openV r = 0 then bkA r (nums r) else .nilp, .int .i64 (openV r)]
theorem openA_no {r : List Iss} (h : listedB r = false) : openA r = .tup [.nilp, .int .i64 20] := by simp [openA, openV, h]

/-- The state of the first loop. -/
def opS (r : List Iss) : Nat → St
  | 0 => ⟨[(28, .int .i64 0), (27, .int .i64 r.length), (26, .vsl (r.map isa)), (1, .ptr 1 0), (4, .ptr 4 0)], [(1, .box [.vsl (r.map isa)]), (4, .box [.ptr 18 0]), (18, .box [.vsl (r.map isa), .nils])]⟩
  | i + 1 => ⟨[(28, .int .i64 (i + 1 : Nat)), (27, .int .i64 r.length), (26, .vsl (r.map isa)), (1, .ptr 1 0), (4, .ptr 4 0)], [(1, .box [.vsl (r.map isa)]), (4, .box [.ptr 18 0]), (18, .box [.vsl (r.map isa), .osl 85 (numsN r (i + 1)).length]), (85, .row 1 ((numsN r (i + 1)).map ia))]⟩

def opT (r : List Iss) (k : Nat) : St := ⟨[(98, .int .i64 k), (97, .int .i64 r.length), (96, .vsl (r.map isa)), (4, .vptr [bkA r (nums r)] 0)], []⟩
def opJ (r : List Iss) (i : Nat) (x : Iss) (j : Nat) : St := ⟨[(34, .int .i64 j), (33, .agg [.func (.func 157) [] [], .func (.func 158) [] [], .func (.func 159) [] [], .func (.func 160) [] []]), (5, .int .i64 i), (6, .ptr 6 0)] ++ (opS r i).t, (opS r i).o ++ [(6, .box (isa x))]⟩
theorem ckN_go {x : Iss} {j : Nat} (hc : ∀ k, k < j → ckN x k = true) (h : ckN x j = true) : ∀ k, k < j + 1 → ckN x k = true := fun k hk => by
  by_cases e : k = j
  · rw [e]; exact h
  · exact hc k (by omega)

section
variable {G : Nat → Option (List AV)}

set_option maxRecDepth 4000 in
theorem open_pc (hG : GC G) (r : List Iss) (h : Wf r) : PC Tryd.prog G 67 [rega r] (openA r) := by
  (refine pc_sheet_open (Nat.le_of_ble_eq_true rfl) fun R hG hrd => GO_AR mixed 1000 ?_; subst hG)
  unfold GC at hG
  have hs := h.1.1
  unfold Sml at hs
  simp -implicitDefEqProofs [rc_sheet_open, rr_sheet_open, rega]
  refine CallK.flat (inS_pc 1 60 r.length) (by simp [AV.flat]) (by simp) ?_
  cases q1 : inR r.length 1 60
  · simp -implicitDefEqProofs [openA_no (r := r) (by simp [listedB, q1])]
  have q1' : 1 ≤ r.length ∧ r.length ≤ 60 := by
    have := of_decide_eq_true q1
    omega
  simp -implicitDefEqProofs []
  refine AR_for (opS r) (fun i => ∀ j (h : j < r.length), j < i → issB r[j] = true ∧ ordB r j = true) r.length (by simp only [opS]; (first | exact Weak.tm (by simp [lk]) | exact Weak.sub (by simp [lk, keptA, AV.keys]) (by simp [lk, keptO, keptA, AV.keys]))) (by simp) ?_ ?_
  · intro i hi he
    refine GO_AR mixed 1000 ?_
    have w1 : IntKind.i64.wrap ((i : Int) + 1) = ((i + 1 : Nat) : Int) := wrapI (by omega) (by omega)
    have a1 := at_eq hi
    have hx := h.1.2 r[i] (List.getElem_mem hi)
    have hk := h.2 r[i] (List.getElem_mem hi)
    have a1 := at_eq hi
    cases i with
    | zero =>
      simp -implicitDefEqProofs [opS, hi, isa, hG]
      refine AR_for (opJ r (0) r[0]) (fun j => ∀ k, k < j → ckN r[0] k = true) 4 (by simp only [opJ, opS]; (first | exact Weak.tm (by simp [lk, isa, ia]) | exact Weak.sub (by simp [lk, keptA, AV.keys, isa, ia]) (by simp [lk, keptO, keptA, AV.keys, isa, ia]))) (by simp) ?_ ?_
      · intro j hj hc
        refine GO_AR mixed 1000 ?_
        rcases (show j = 0 ∨ j = 1 ∨ j = 2 ∨ j = 3 by omega) with rfl | rfl | rfl | rfl
        · have v0 : IntKind.i64.wrap 1 = 1 := rfl
          simp -implicitDefEqProofs [opJ, opS, isa]
          (first | refine CallK.of (ck1_pc r[0]) (by simp) ?_ | refine CallD.of (ck1_pc r[0]) (by simp) ?_)
          cases q : ck1 r[0]
          · simp -implicitDefEqProofs []
            refine GO_ret mixed 1000 ?_
            simp -implicitDefEqProofs []
            refine GO_ret mixed 1000 ?_
            simp -implicitDefEqProofs [openA_no (listed_no1 hi (issB_ckF (j := 0) (by omega) q))]
          · simp -implicitDefEqProofs [v0]
            first | exact ⟨(by (first | exact Weak.tm (by simp [lk, opJ, opS, isa, ia]) | exact Weak.sub (by simp [lk, keptA, AV.keys, opJ, opS, isa, ia]) (by simp [lk, keptO, keptA, AV.keys, opJ, opS, isa, ia]))), ckN_go hc q⟩ | exact ⟨(by (first | exact Weak.tm (by simp [lk, opJ, opS, isa, ia]) | exact Weak.sub (by simp [lk, keptA, AV.keys, opJ, opS, isa, ia]) (by simp [lk, keptO, keptA, AV.keys, opJ, opS, isa, ia]))), q⟩
        · have v1 : IntKind.i64.wrap 2 = 2 := rfl
          simp -implicitDefEqProofs [opJ, opS, isa]
          (first | refine CallK.of (ck2_pc r[0] hk) (by simp) ?_ | refine CallD.of (ck2_pc r[0] hk) (by simp) ?_)
          cases q : ck2 r[0]
          · simp -implicitDefEqProofs []
            refine GO_ret mixed 1000 ?_
            simp -implicitDefEqProofs []
            refine GO_ret mixed 1000 ?_
            simp -implicitDefEqProofs [openA_no (listed_no1 hi (issB_ckF (j := 1) (by omega) q))]
          · simp -implicitDefEqProofs [v1]
            first | exact ⟨(by (first | exact Weak.tm (by simp [lk, opJ, opS, isa, ia]) | exact Weak.sub (by simp [lk, keptA, AV.keys, opJ, opS, isa, ia]) (by simp [lk, keptO, keptA, AV.keys, opJ, opS, isa, ia]))), ckN_go hc q⟩ | exact ⟨(by (first | exact Weak.tm (by simp [lk, opJ, opS, isa, ia]) | exact Weak.sub (by simp [lk, keptA, AV.keys, opJ, opS, isa, ia]) (by simp [lk, keptO, keptA, AV.keys, opJ, opS, isa, ia]))), q⟩
        · have v2 : IntKind.i64.wrap 3 = 3 := rfl
          simp -implicitDefEqProofs [opJ, opS, isa]
          (first | refine CallK.of (ck3_pc r[0] hx.1) (by simp) ?_ | refine CallD.of (ck3_pc r[0] hx.1) (by simp) ?_)
          cases q : ck3 r[0]
          · simp -implicitDefEqProofs []
            refine GO_ret mixed 1000 ?_
            simp -implicitDefEqProofs []
            refine GO_ret mixed 1000 ?_
            simp -implicitDefEqProofs [openA_no (listed_no1 hi (issB_ckF (j := 2) (by omega) q))]
          · simp -implicitDefEqProofs [v2]
            first | exact ⟨(by (first | exact Weak.tm (by simp [lk, opJ, opS, isa, ia]) | exact Weak.sub (by simp [lk, keptA, AV.keys, opJ, opS, isa, ia]) (by simp [lk, keptO, keptA, AV.keys, opJ, opS, isa, ia]))), ckN_go hc q⟩ | exact ⟨(by (first | exact Weak.tm (by simp [lk, opJ, opS, isa, ia]) | exact Weak.sub (by simp [lk, keptA, AV.keys, opJ, opS, isa, ia]) (by simp [lk, keptO, keptA, AV.keys, opJ, opS, isa, ia]))), q⟩
        · have v3 : IntKind.i64.wrap 4 = 4 := rfl
          simp -implicitDefEqProofs [opJ, opS, isa]
          (first | refine CallK.of (ck4_pc r[0] hx.2) (by simp) ?_ | refine CallD.of (ck4_pc r[0] hx.2) (by simp) ?_)
          cases q : ck4 r[0]
          · simp -implicitDefEqProofs []
            refine GO_ret mixed 1000 ?_
            simp -implicitDefEqProofs []
            refine GO_ret mixed 1000 ?_
            simp -implicitDefEqProofs [openA_no (listed_no1 hi (issB_ckF (j := 3) (by omega) q))]
          · simp -implicitDefEqProofs [v3]
            first | exact ⟨(by (first | exact Weak.tm (by simp [lk, opJ, opS, isa, ia]) | exact Weak.sub (by simp [lk, keptA, AV.keys, opJ, opS, isa, ia]) (by simp [lk, keptO, keptA, AV.keys, opJ, opS, isa, ia]))), ckN_go hc q⟩ | exact ⟨(by (first | exact Weak.tm (by simp [lk, opJ, opS, isa, ia]) | exact Weak.sub (by simp [lk, keptA, AV.keys, opJ, opS, isa, ia]) (by simp [lk, keptO, keptA, AV.keys, opJ, opS, isa, ia]))), q⟩
      · intro hc
        refine GO_AR mixed 1000 ?_
        have p1 : issB r[0] = true := issB_ckN hc
        simp -implicitDefEqProofs [opJ, opS, isa]
        refine GO_ret mixed 1000 ?_
        by_cases p3 : r[0].l = 1
        · have hn : numsN r 1 = [r[0].d] := by simp [numsN, newB, a1]
          have ok : ordB r 0 = true := by simp [ordB, a1, p3]
          have w0 : IntKind.i64.wrap 1 = 1 := rfl
          simp -implicitDefEqProofs [p3, w0]
          exact ⟨rfl, (by (first | exact Weak.tm (by simp [lk, opS, hn, ia]) | exact Weak.sub (by simp [lk, keptA, AV.keys, opS, hn, ia]) (by simp [lk, keptO, keptA, AV.keys, opS, hn, ia]))), fun j q1 q2 => by subst q2; exact ⟨p1, ok⟩⟩
        · simp -implicitDefEqProofs [p3]
          refine GO_ret mixed 1000 ?_
          simp -implicitDefEqProofs [openA_no (listed_no2 hi (by simp [ordB, a1, p3]))]
    | succ i =>
      have k1 : (i : Int) + 1 < r.length := by omega
      have k2 : ((i : Int) + 1).toNat = i + 1 := by omega
      have k3 : (0 : Int) ≤ (i : Int) + 1 := by omega
      simp -implicitDefEqProofs [opS, hi, isa, hG, k1, k2, k3]
      refine AR_for (opJ r (i + 1) r[i + 1]) (fun j => ∀ k, k < j → ckN r[i + 1] k = true) 4 (by simp only [opJ, opS]; (first | exact Weak.tm (by simp [lk, isa, ia]) | exact Weak.sub (by simp [lk, keptA, AV.keys, isa, ia]) (by simp [lk, keptO, keptA, AV.keys, isa, ia]))) (by simp) ?_ ?_
      · intro j hj hc
        refine GO_AR mixed 1000 ?_
        rcases (show j = 0 ∨ j = 1 ∨ j = 2 ∨ j = 3 by omega) with rfl | rfl | rfl | rfl
        · have v0 : IntKind.i64.wrap 1 = 1 := rfl
          simp -implicitDefEqProofs [opJ, opS, isa]
          (first | refine CallK.of (ck1_pc r[i + 1]) (by simp) ?_ | refine CallD.of (ck1_pc r[i + 1]) (by simp) ?_)
          cases q : ck1 r[i + 1]
          · simp -implicitDefEqProofs []
            refine GO_ret mixed 1000 ?_
            simp -implicitDefEqProofs []
            refine GO_ret mixed 1000 ?_
            simp -implicitDefEqProofs [openA_no (listed_no1 hi (issB_ckF (j := 0) (by omega) q))]
          · simp -implicitDefEqProofs [v0]
            first | exact ⟨(by (first | exact Weak.tm (by simp [lk, opJ, opS, isa, ia]) | exact Weak.sub (by simp [lk, keptA, AV.keys, opJ, opS, isa, ia]) (by simp [lk, keptO, keptA, AV.keys, opJ, opS, isa, ia]))), ckN_go hc q⟩ | exact ⟨(by (first | exact Weak.tm (by simp [lk, opJ, opS, isa, ia]) | exact Weak.sub (by simp [lk, keptA, AV.keys, opJ, opS, isa, ia]) (by simp [lk, keptO, keptA, AV.keys, opJ, opS, isa, ia]))), q⟩
        · have v1 : IntKind.i64.wrap 2 = 2 := rfl
          simp -implicitDefEqProofs [opJ, opS, isa]
          (first | refine CallK.of (ck2_pc r[i + 1] hk) (by simp) ?_ | refine CallD.of (ck2_pc r[i + 1] hk) (by simp) ?_)
          cases q : ck2 r[i + 1]
          · simp -implicitDefEqProofs []
            refine GO_ret mixed 1000 ?_
            simp -implicitDefEqProofs []
            refine GO_ret mixed 1000 ?_
            simp -implicitDefEqProofs [openA_no (listed_no1 hi (issB_ckF (j := 1) (by omega) q))]
          · simp -implicitDefEqProofs [v1]
            first | exact ⟨(by (first | exact Weak.tm (by simp [lk, opJ, opS, isa, ia]) | exact Weak.sub (by simp [lk, keptA, AV.keys, opJ, opS, isa, ia]) (by simp [lk, keptO, keptA, AV.keys, opJ, opS, isa, ia]))), ckN_go hc q⟩ | exact ⟨(by (first | exact Weak.tm (by simp [lk, opJ, opS, isa, ia]) | exact Weak.sub (by simp [lk, keptA, AV.keys, opJ, opS, isa, ia]) (by simp [lk, keptO, keptA, AV.keys, opJ, opS, isa, ia]))), q⟩
        · have v2 : IntKind.i64.wrap 3 = 3 := rfl
          simp -implicitDefEqProofs [opJ, opS, isa]
          (first | refine CallK.of (ck3_pc r[i + 1] hx.1) (by simp) ?_ | refine CallD.of (ck3_pc r[i + 1] hx.1) (by simp) ?_)
          cases q : ck3 r[i + 1]
          · simp -implicitDefEqProofs []
            refine GO_ret mixed 1000 ?_
            simp -implicitDefEqProofs []
            refine GO_ret mixed 1000 ?_
            simp -implicitDefEqProofs [openA_no (listed_no1 hi (issB_ckF (j := 2) (by omega) q))]
          · simp -implicitDefEqProofs [v2]
            first | exact ⟨(by (first | exact Weak.tm (by simp [lk, opJ, opS, isa, ia]) | exact Weak.sub (by simp [lk, keptA, AV.keys, opJ, opS, isa, ia]) (by simp [lk, keptO, keptA, AV.keys, opJ, opS, isa, ia]))), ckN_go hc q⟩ | exact ⟨(by (first | exact Weak.tm (by simp [lk, opJ, opS, isa, ia]) | exact Weak.sub (by simp [lk, keptA, AV.keys, opJ, opS, isa, ia]) (by simp [lk, keptO, keptA, AV.keys, opJ, opS, isa, ia]))), q⟩
        · have v3 : IntKind.i64.wrap 4 = 4 := rfl
          simp -implicitDefEqProofs [opJ, opS, isa]
          (first | refine CallK.of (ck4_pc r[i + 1] hx.2) (by simp) ?_ | refine CallD.of (ck4_pc r[i + 1] hx.2) (by simp) ?_)
          cases q : ck4 r[i + 1]
          · simp -implicitDefEqProofs []
            refine GO_ret mixed 1000 ?_
            simp -implicitDefEqProofs []
            refine GO_ret mixed 1000 ?_
            simp -implicitDefEqProofs [openA_no (listed_no1 hi (issB_ckF (j := 3) (by omega) q))]
          · simp -implicitDefEqProofs [v3]
            first | exact ⟨(by (first | exact Weak.tm (by simp [lk, opJ, opS, isa, ia]) | exact Weak.sub (by simp [lk, keptA, AV.keys, opJ, opS, isa, ia]) (by simp [lk, keptO, keptA, AV.keys, opJ, opS, isa, ia]))), ckN_go hc q⟩ | exact ⟨(by (first | exact Weak.tm (by simp [lk, opJ, opS, isa, ia]) | exact Weak.sub (by simp [lk, keptA, AV.keys, opJ, opS, isa, ia]) (by simp [lk, keptO, keptA, AV.keys, opJ, opS, isa, ia]))), q⟩
      · intro hc
        refine GO_AR mixed 1000 ?_
        have p1 : issB r[i + 1] = true := issB_ckN hc
        simp -implicitDefEqProofs [opJ, opS, isa]
        refine GO_ret mixed 1000 ?_
        have w2 : IntKind.i64.wrap (i : Int) = (i : Int) := wrapI (by omega) (by omega)
        have w3 : IntKind.i64.wrap ((i : Int) + 1 + 1) = (i : Int) + 1 + 1 := wrapI (by omega) (by omega)
        have k3 : (0 : Int) < (i : Int) + 1 := by omega
        have hi2 : i < r.length := by omega
        have a2 := at_eq hi2
        have bl := (he i hi2 (by omega)).1
        simp only [issB, headB, Bool.and_eq_true, inR, decide_eq_true_eq] at bl
        have w4 : IntKind.i64.wrap (r[i].l + 1) = r[i].l + 1 := wrapI (by omega) (by omega)
        have b1 := numsN_len r (i + 1)
        have b2 : ((numsN r (i + 1)).length + 1) * 8 ≤ 70368744177664 := by omega
        have go : ordB r (i + 1) = true → ∀ j (h : j < r.length), j < i + 1 + 1 → issB r[j] = true ∧ ordB r j = true := fun g2 j q1 q2 => by
          by_cases e : j = i + 1
          · subst e; exact ⟨p1, g2⟩
          · exact he j q1 (by omega)
        by_cases p3 : r[i].d = r[i + 1].d
        · have hn : numsN r (i + 1 + 1) = numsN r (i + 1) := by rw [numsN]; simp [newB, a1, a2, p3]
          by_cases p5 : r[i + 1].l = r[i].l + 1
          case neg =>
            have p5' : ¬ r[i].l + 1 = r[i + 1].l := fun e => p5 e.symm
            simp -implicitDefEqProofs [k3, w2, w4, hi2, isa, p3, p5']
            refine GO_ret mixed 1000 ?_
            simp -implicitDefEqProofs [openA_no (listed_no2 hi (by simp [ordB, a1, a2, p3, p5]))]
          by_cases p6 : r[i].k = r[i + 1].k
          · have ok : ordB r (i + 1) = true := by simp [ordB, a1, a2, p3, p5, p6]
            simp -implicitDefEqProofs [k3, w2, w3, w4, hi2, isa, p3, p5, p6]
            exact ⟨(by (first | exact Weak.tm (by simp [lk, opS, hn, ia]) | exact Weak.sub (by simp [lk, keptA, AV.keys, opS, hn, ia]) (by simp [lk, keptO, keptA, AV.keys, opS, hn, ia]))), go ok⟩
          · have p6' : ¬ r[i + 1].k = r[i].k := fun e => p6 e.symm
            simp -implicitDefEqProofs [k3, w2, w4, hi2, isa, p3, p5, p6]
            refine GO_ret mixed 1000 ?_
            simp -implicitDefEqProofs [openA_no (listed_no2 hi (by simp [ordB, a1, a2, p3, p5, p6']))]
        by_cases p4 : r[i + 1].d < r[i].d
        · simp -implicitDefEqProofs [k3, w2, hi2, isa, p3, p4]
          refine GO_ret mixed 1000 ?_
          simp -implicitDefEqProofs [openA_no (listed_no2 hi (by simp [ordB, a1, a2, p4]))]
        have p7 : r[i].d < r[i + 1].d := by omega
        have hn : numsN r (i + 1 + 1) = numsN r (i + 1) ++ [r[i + 1].d] := by rw [numsN]; simp [newB, a1, a2, p3]
        by_cases p5 : r[i + 1].l = 1
        · have ok : ordB r (i + 1) = true := by simp [ordB, a1, a2, p4, p7, p5]
          simp -implicitDefEqProofs [k3, w2, w3, hi2, isa, p3, p4, p5, b2]
          exact ⟨rfl, (by (first | exact Weak.tm (by simp [lk, opS, hn, ia]) | exact Weak.sub (by simp [lk, keptA, AV.keys, opS, hn, ia]) (by simp [lk, keptO, keptA, AV.keys, opS, hn, ia]))), go ok⟩
        · simp -implicitDefEqProofs [k3, w2, hi2, isa, p3, p4, p5]
          refine GO_ret mixed 1000 ?_
          simp -implicitDefEqProofs [openA_no (listed_no2 hi (by simp [ordB, a1, a2, p4, p7, p5]))]
  · intro he
    refine GO_AR mixed 1000 ?_
    obtain ⟨n, hn⟩ : ∃ n, r.length = n + 1 := ⟨r.length - 1, by omega⟩
    have e : numsN r (n + 1) = nums r := by rw [nums, hn]
    have g1 : r.all issB = true := List.all_eq_true.2 fun x hx => by
      obtain ⟨j, hj, rfl⟩ := List.getElem_of_mem hx
      exact (he j hj hj).1
    have g2 : (List.range r.length).all (ordB r) = true := range_all.2 fun j hj => (he j hj hj).2
    have hO : Ord r := fun i hi => by
      have := (he (i + 1) hi (by omega)).2
      simp only [ordB] at this
      split at this
      · cases this
      · omega
    have hns : Sml (nums r) := by have := nums_len r; unfold Sml; omega
    have hsn : (nums r).Pairwise (· ≤ ·) := (nums_lt hO).imp fun h => Int.le_of_lt h
    have k1 : ¬ (n : Int) + 1 < r.length := by omega
    rw [hn]
    simp -implicitDefEqProofs [opS, k1, e]
    refine GO_ret mixed 1000 ?_
    simp -implicitDefEqProofs []
    by_cases c20 : 20 < (nums r).length
    · have c20' : (20 : Int) < (nums r).length := by omega
      simp -implicitDefEqProofs [c20', openA_no (r := r) (by simp [listedB]; omega)]
    have c20' : ¬ (20 : Int) < (nums r).length := by omega
    have pu : ((nums r).map ia).all (fun x => x.all AV.pure) = true := by simp [ia, AV.pure]
    have pw : (r.map isa).all (fun x => x.all AV.pure) = true := by simp [isa, AV.pure]
    simp -implicitDefEqProofs [c20']
    refine AR_for (opT r) (fun i => ∀ j (h : j < r.length), j < i → ItsIn r r[j]) r.length (Weak.trans (Weak.frz newK _ (fun k hk => by simp [newK]; omega)) ?_) (by simp) ?_ ?_
    · simp only [opT, bkA, frzSt]
      refine Weak.sub (by simp [lk, keptA, AV.keys, frzSt, newK, frzA, frz, snapF, snapL, St.get, pu, pw]) (by simp) (by simp [newK])
    · intro i hi hc
      refine GO_AR mixed 1000 ?_
      have w1 : IntKind.i64.wrap ((i : Int) + 1) = ((i + 1 : Nat) : Int) := wrapI (by omega) (by omega)
      have hx := h.1.2 r[i] (List.getElem_mem hi)
      simp -implicitDefEqProofs [opT, hi, isa]
      (first | refine CallK.of (containsT_pc 103 [.vptr [bkA r (nums r)] 0] (fun y => !decide (y.1 ∈ nums r)) r[i].its (by simp [AV.pure]) hx.1 (fun y _ => openC_pc r (nums r) y hsn hns)) (by simp) ?_ | refine CallD.of (containsT_pc 103 [.vptr [bkA r (nums r)] 0] (fun y => !decide (y.1 ∈ nums r)) r[i].its (by simp [AV.pure]) hx.1 (fun y _ => openC_pc r (nums r) y hsn hns)) (by simp) ?_)
      cases q : r[i].its.any fun y => !decide (y.1 ∈ nums r)
      · simp -implicitDefEqProofs [w1]
        refine ⟨(by (first | exact Weak.tm (by simp [lk, opT]) | exact Weak.sub (by simp [lk, keptA, AV.keys, opT]) (by simp [lk, keptO, keptA, AV.keys, opT]))), fun j q1 q2 => ?_⟩
        by_cases e2 : j = i
        · subst e2
          intro y hy
          have := List.any_eq_false.1 q y hy
          simpa using this
        · exact hc j q1 (by omega)
      · simp -implicitDefEqProofs []
        refine GO_ret mixed 1000 ?_
        obtain ⟨y, hy, hy2⟩ := List.any_eq_true.1 q
        obtain ⟨k, hk, rfl⟩ := List.getElem_of_mem hy
        simp -implicitDefEqProofs [openA_no (listed_no3 hi hk (by simpa using hy2))]
    · intro hc
      refine GO_AR mixed 1000 ?_
      have g3 : inB r = true := List.all_eq_true.2 fun x hx => by
        obtain ⟨j, hj, rfl⟩ := List.getElem_of_mem hx
        exact List.all_eq_true.2 fun y hy => decide_eq_true (hc j hj hj y hy)
      have hL : listedB r = true := by
        simp only [listedB, q1, g1, g2, g3, Bool.true_and, Bool.and_true, decide_eq_true_eq]; omega
      simp -implicitDefEqProofs [opT]
      refine GO_ret mixed 1000 ?_
      simp -implicitDefEqProofs []
      (first | refine CallK.of (depths_pc r h hO (by omega)) (by simp) ?_ | refine CallD.of (depths_pc r h hO (by omega)) (by simp) ?_)
      simp -implicitDefEqProofs []
      by_cases c21 : 0 < (dRun r (nums r).length).2.length
      · have v : openA r = .tup [.nilp, .int .i64 21] := by simp [openA, openV, hL, c21]
        simp -implicitDefEqProofs [c21, v]
      simp -implicitDefEqProofs [c21]
      refine AR_opn (kvs := (dRun r (nums r).length).1) rfl (by simp [opnT, St.tmp, lk]) ?_ ?_
      · intro h6
        refine GO_ret mixed 1000 ?_
        have n6 : ¬ ∃ p ∈ (dRun r (nums r).length).1, 6 < p.2 := fun ⟨p, hp, hp6⟩ => by have := h6 p hp; omega
        have v : openA r = .tup [bkA r (nums r), .int .i64 0] := by
          unfold openA openV
          rw [if_pos hL, if_neg c21, if_neg n6]; simp
        simp -implicitDefEqProofs [v, bkA]
      · intro h6
        refine GO_AR mixed 1000 ?_
        have v : openA r = .tup [.nilp, .int .i64 20] := by
          unfold openA openV
          rw [if_pos hL, if_neg c21, if_pos h6]; simp
        simp -implicitDefEqProofs [opnRet, v]
        refine GO_ret mixed 1000 ?_
        simp -implicitDefEqProofs []
end
end Go.Proofs.YtdpmioiamcgfkaaDoor
