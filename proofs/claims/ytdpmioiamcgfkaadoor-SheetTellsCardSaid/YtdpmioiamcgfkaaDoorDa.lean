/-
  Registers as trees; what the reference's small functions compute, by the abstract machine.
-/
import Derived.Test.YtdpmioiamcgfkaaDoorRcA
import Derived.Test.YtdpmioiamcgfkaaDoorMath
import Derived.Test.YtdpmioiamcgfkaaDoorAmN
import Derived.IntWalk
namespace Go.Proofs.YtdpmioiamcgfkaaDoor
open Go.RowKit

theorem mixed : Tryd.prog.follows .mixedOrders = true := by kernel_rfl
def inR (n lo hi : Int) : Bool := decide (lo ≤ n ∧ n ≤ hi)
theorem wrapI {n : Int} (h0 : -9223372036854775808 ≤ n) (h1 : n ≤ 9223372036854775807) : IntKind.i64.wrap n = n := IntWalk.i64_in _ ⟨h0, h1⟩

/-- A loop that counts. -/
def RndF (S : Nat → St) (I : Nat → Prop) (i : Nat) (Φ : Exit → St → Prop) : Exit → St → Prop
  | .normal, st => Weak st (S (i + 1)) ∧ I (i + 1)
  | e, st => Φ e st
def RndE (Φ : Exit → St → Prop) : Exit → St → Prop
  | .normal, _ => False
  | e, st => Φ e st
section
variable {P : Program} {R : Run} {st : St} {Φ : Exit → St → Prop} {S : Nat → St} {I : Nat → Prop} {i : Nat}
theorem RndF_nor : RndF S I i Φ .normal st = (Weak st (S (i + 1)) ∧ I (i + 1)) := rfl
theorem RndF_ret : RndF S I i Φ .ret st = Φ .ret st := rfl
theorem RndF_exit {j : Nat} : RndF S I i Φ (.exit j) st = Φ (.exit j) st := rfl
theorem RndE_ret : RndE Φ .ret st = Φ .ret st := rfl
theorem RndE_exit {j : Nat} : RndE Φ (.exit j) st = Φ (.exit j) st := rfl
attribute [simp] RndF_nor RndF_ret RndF_exit RndE_ret RndE_exit
theorem AR_for {c : RCode} (S : Nat → St) (I : Nat → Prop) (N : Nat) (h0 : Weak st (S 0)) (hi : I 0) (hr : ∀ i, i < N → I i → AR P R c (S i) (RndF S I i Φ)) (he : I N → AR P R c (S N) (RndE Φ)) : AR P R (.loop c) st Φ := by
  refine AR_loop S (fun i => i ≤ N ∧ I i) (fun i => N - i) 0 h0 ⟨Nat.zero_le _, hi⟩ ?_
  rintro i ⟨h1, h2⟩
  by_cases h3 : i < N
  · refine AR_mono (hr i h3 h2) fun e s hs => ?_
    cases e with
    | normal => exact ⟨i + 1, hs.1, ⟨by omega, hs.2⟩, by show N - (i + 1) < N - i; omega⟩
    | _ => exact hs
  · obtain rfl : i = N := by omega
    refine AR_mono (he h2) fun e s hs => ?_
    cases e with
    | normal => exact hs.elim
    | _ => exact hs
end

/-- An issue: its drawing, its letter, its kind; items (a drawing, a count); sizes. -/
structure Iss where
  d : Int
  l : Int
  k : Int
  its : List (Int × Int)
  dms : List Dm
  deriving DecidableEq, Inhabited

def ia (n : Int) : List AV := [.int .i64 n]
def ita (p : Int × Int) : List AV := [.int .i64 p.1, .int .i64 p.2]
def dma (d : Dm) : List AV := [.int .i64 d.n, .int .i64 d.l, .int .i64 d.u]
def isa (x : Iss) : List AV := [.int .i64 x.d, .int .i64 x.l, .int .u8 x.k, .vsl (x.its.map ita), .vsl (x.dms.map dma)]
def rega (r : List Iss) : AV := .agg [.vsl (r.map isa)]
/-- Lists that a machine can hold. -/
def Sml {α : Type} (l : List α) : Prop := l.length ≤ 16777216

section
variable {G : Nat → Option (List AV)}

theorem within1_pc (n lo hi : Int) : PC Tryd.prog G 136 [.int .i64 n, .int .i64 lo, .int .i64 hi] (.bool (inR n lo hi)) := by
  (refine pc_ref01_within (Nat.le_of_ble_eq_true rfl) fun R hG hrd => GO_AR mixed 1000 ?_; subst hG)
  by_cases h1 : lo ≤ n <;> simp -implicitDefEqProofs [rc_ref01_within, rr_ref01_within, h1, inR]

theorem dim_pc (n l u : Int) : PC Tryd.prog G 126 [.agg [.int .i64 n, .int .i64 l, .int .i64 u]] (.bool (vd ⟨n, l, u⟩)) := by
  (refine pc_ref01_Dim (Nat.le_of_ble_eq_true rfl) fun R hG hrd => GO_AR mixed 1000 ?_; subst hG)
  have e : vd ⟨n, l, u⟩ = (inR n 0 1000000000 && (inR u 0 1000000000 && inR l 0 u)) := by
    unfold vd inR
    rw [← Bool.decide_and, ← Bool.decide_and]
    exact decide_eq_decide.2 (by simp only; omega)
  simp -implicitDefEqProofs [rc_ref01_Dim, rr_ref01_Dim, e]
  (first | refine CallK.of (within1_pc _ _ _) (by simp) ?_ | refine CallD.of (within1_pc _ _ _) (by simp) ?_)
  cases h1 : inR n 0 1000000000
  · simp -implicitDefEqProofs
  · simp -implicitDefEqProofs
    (first | refine CallK.of (within1_pc _ _ _) (by simp) ?_ | refine CallD.of (within1_pc _ _ _) (by simp) ?_)
    cases h2 : inR u 0 1000000000
    · simp -implicitDefEqProofs
    · simp -implicitDefEqProofs
      (first | refine CallK.of (within1_pc _ _ _) (by simp) ?_ | refine CallD.of (within1_pc _ _ _) (by simp) ?_)
      simp -implicitDefEqProofs

theorem within_pc (n lo hi : Int) : PC Tryd.prog G 106 [.int .i64 n, .int .i64 lo, .int .i64 hi] (.bool (inR n lo hi)) := by
  (refine pc_ref02_within (Nat.le_of_ble_eq_true rfl) fun R hG hrd => GO_AR mixed 1000 ?_; subst hG)
  by_cases h1 : lo ≤ n <;> simp -implicitDefEqProofs [rc_ref02_within, rr_ref02_within, h1, inR]

/-- The index of a number; -1 if it is not there. -/
def idx (l : List Int) (n : Int) : Int := if n ∈ l then (l.idxOf n : Int) else -1

theorem idx_at {l : List Int} {n : Int} {i : Nat} (hi : i < l.length) (he : l[i] = n) (hb : ∀ j (h : j < i), l[j] ≠ n) : idx l n = i := by
  have hm : n ∈ l := by rw [← he]; exact List.getElem_mem hi
  rw [idx, if_pos hm]
  have h1 : l.idxOf n < l.length := List.idxOf_lt_length_iff.2 hm
  have h2 : l[l.idxOf n] = n := List.getElem_idxOf h1
  have h3 : ¬ l.idxOf n < i := fun h => hb _ h h2
  have h4 : ¬ i < l.idxOf n := fun h => by
    have := List.not_of_lt_findIdx (p := (· == n)) h
    simp [he] at this
  congr 1; omega
theorem idx_no {l : List Int} {n : Int} (hb : ∀ j (h : j < l.length), l[j] ≠ n) : idx l n = -1 := by
  rw [idx, if_neg]
  intro hm
  obtain ⟨j, h1, h2⟩ := List.getElem_of_mem hm
  exact hb j h1 h2

theorem index_pc (l : List Int) (n : Int) (hl : Sml l) : PC Tryd.prog G 56 [.vsl (l.map ia), .int .i64 n] (.int .i64 (idx l n)) := by
  (refine pc_ref02_Index (Nat.le_of_ble_eq_true rfl) fun R hG hrd => GO_AR mixed 1000 ?_; subst hG)
  simp -implicitDefEqProofs [rc_ref02_Index, rr_ref02_Index]
  refine AR_for (fun i => ⟨[(5, .int .i64 i), (0, .vsl (l.map ia)), (1, .int .i64 n)], []⟩) (fun i => ∀ j (h : j < l.length), j < i → l[j] ≠ n) l.length (by (first | exact Weak.tm (by simp [lk]) | exact Weak.sub (by simp [lk, keptA, AV.keys]) (by simp [lk, keptO, keptA, AV.keys]))) (by simp) ?_ ?_
  · intro i hi he
    refine GO_AR mixed 1000 ?_
    unfold Sml at hl
    have w1 : IntKind.i64.wrap ((i : Int) + 1) = ((i + 1 : Nat) : Int) := wrapI (by omega) (by omega)
    by_cases h2 : l[i] = n
    · simp -implicitDefEqProofs [hi, ia, h2]
      refine GO_ret mixed 1000 ?_
      simp -implicitDefEqProofs [idx_at hi h2 (fun j h => he j (by omega) h)]
    · simp -implicitDefEqProofs [hi, ia, h2, w1]
      refine ⟨(by (first | exact Weak.tm (by simp [lk]) | exact Weak.sub (by simp [lk, keptA, AV.keys]) (by simp [lk, keptO, keptA, AV.keys]))), fun j h1 h3 => ?_⟩
      by_cases e : j = i
      · subst e; exact h2
      · exact he j h1 (by omega)
  · intro he
    refine GO_AR mixed 1000 ?_
    simp -implicitDefEqProofs []
    refine GO_ret mixed 1000 ?_
    simp -implicitDefEqProofs [idx_no (fun j h => he j h h)]

theorem sameInts_pc (a b : List Int) (ha : Sml a) : PC Tryd.prog G 26 [.vsl (a.map ia), .vsl (b.map ia)] (.bool (decide (a = b))) := by
  (refine pc_ref02_SameInts (Nat.le_of_ble_eq_true rfl) fun R hG hrd => GO_AR mixed 1000 ?_; subst hG)
  by_cases hl : a.length = b.length
  · have hl' : (a.length : Int) = b.length := by omega
    simp -implicitDefEqProofs [rc_ref02_SameInts, rr_ref02_SameInts, hl']
    refine AR_for (fun i => ⟨[(5, .int .i64 i), (0, .vsl (a.map ia)), (1, .vsl (b.map ia))], []⟩) (fun i => ∀ j (h : j < a.length), j < i → a[j] = b[j]) a.length (by (first | exact Weak.tm (by simp [lk]) | exact Weak.sub (by simp [lk, keptA, AV.keys]) (by simp [lk, keptO, keptA, AV.keys]))) (by simp) ?_ ?_
    · intro i hi he
      refine GO_AR mixed 1000 ?_
      unfold Sml at ha
      have hi2 : i < b.length := by omega
      have w1 : IntKind.i64.wrap ((i : Int) + 1) = ((i + 1 : Nat) : Int) := wrapI (by omega) (by omega)
      by_cases h2 : a[i] = b[i]
      · simp -implicitDefEqProofs [hi, hi2, ia, h2, w1]
        refine ⟨rfl, (by (first | exact Weak.tm (by simp [lk]) | exact Weak.sub (by simp [lk, keptA, AV.keys]) (by simp [lk, keptO, keptA, AV.keys]))), fun j h1 h3 => ?_⟩
        by_cases e : j = i
        · subst e; exact h2
        · exact he j h1 (by omega)
      · have h3 : ¬ a = b := fun e => h2 (by subst e; rfl)
        simp -implicitDefEqProofs [hi, hi2, ia, h2]
        refine ⟨rfl, ?_⟩
        refine GO_ret mixed 1000 ?_
        simp -implicitDefEqProofs [h3]
    · intro he
      refine GO_AR mixed 1000 ?_
      have h3 : a = b := List.ext_getElem hl fun j h1 h2 => he j h1 h1
      simp -implicitDefEqProofs []
      refine GO_ret mixed 1000 ?_
      simp -implicitDefEqProofs [h3]
  · have hl' : ¬ (a.length : Int) = b.length := by omega
    have h3 : ¬ a = b := fun e => hl (by rw [e])
    simp -implicitDefEqProofs [rc_ref02_SameInts, rr_ref02_SameInts, hl', h3]
end
end Go.Proofs.YtdpmioiamcgfkaaDoor
