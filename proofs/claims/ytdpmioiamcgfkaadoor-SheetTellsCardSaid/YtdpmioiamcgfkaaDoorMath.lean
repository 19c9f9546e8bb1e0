/-
  Plain functions that say what the functions of packages bluelineref01 and size compute. No program in sight.
-/
import Derived.RowKit
namespace Go.Proofs.YtdpmioiamcgfkaaDoor

/-- A size: its nominal number, its lower and its upper end. -/
structure Dm where
  n : Int
  l : Int
  u : Int
  deriving DecidableEq, Inhabited

def Dm.zero : Dm := ⟨0, 0, 0⟩

def Dm.beq (a b : Dm) : Bool := a.n == b.n && (a.l == b.l && a.u == b.u)
theorem Dm.beq_iff (a b : Dm) : a.beq b = true ↔ a = b := by
  obtain ⟨x, y, z⟩ := a; obtain ⟨x', y', z'⟩ := b; simp [Dm.beq]

/-- Lists of sizes are the same. -/
def Dm.beqs : List Dm → List Dm → Bool
  | [], [] => true
  | a :: as, b :: bs => a.beq b && Dm.beqs as bs
  | _, _ => false
theorem Dm.beqs_iff (a b : List Dm) : Dm.beqs a b = true ↔ a = b := by
  induction a generalizing b with
  | nil => cases b <;> simp [Dm.beqs]
  | cons x xs ih => cases b with
    | nil => simp [Dm.beqs]
    | cons y ys => simp [Dm.beqs, ih, Dm.beq_iff]
theorem Dm.beqs_true {a b : List Dm} (h : a = b) : Dm.beqs a b = true := (Dm.beqs_iff a b).2 h
theorem Dm.beqs_false {a b : List Dm} (h : a ≠ b) : Dm.beqs a b = false := by
  cases h' : Dm.beqs a b
  · rfl
  · exact absurd ((Dm.beqs_iff a b).1 h') h

/-- A size is valid. -/
def vd (d : Dm) : Bool := decide (0 ≤ d.n ∧ d.n ≤ 1000000000 ∧ 0 ≤ d.l ∧ d.l ≤ d.u ∧ d.u ≤ 1000000000)

/-- The error of a size. -/
def chk (d : Dm) : Int := if vd d = true then 0 else 10

/-- The step of a unit. -/
def stp (k : Int) : Int := if k = 1 then 100 else if k = 2 then 254 else 0

/-- All numbers are multiples of a step. -/
def exa (d : Dm) (s : Int) : Bool := decide (d.n % s = 0 ∧ d.l % s = 0 ∧ d.u % s = 0)

/-- The units in which a size is exact, and the error. -/
def exactV (d : Dm) : Int := if vd d = true then (if exa d 100 = true then 1 else 0) + (if exa d 254 = true then 2 else 0) else 0

/-- The nominal number of a size that is drawn again. -/
def nom (n s : Int) : Int := if n / s * s + s ≤ 1000000000 ∧ n / s * s + s - n < n - n / s * s then n / s * s + s else n / s * s

/-- A size drawn again by a step. -/
def agn (d : Dm) (s : Int) : Dm := ⟨nom d.n s, (d.l + s - 1) / s * s, d.u / s * s⟩

def agnOk (d : Dm) (s : Int) : Bool := decide ((agn d s).l ≤ (agn d s).u)

/-- A size drawn again in a unit, and the error. -/
def conv (d : Dm) (k : Int) : Dm × Int :=
  if vd d = true then if stp k = 0 then (Dm.zero, 11) else if agnOk d (stp k) = true then (agn d (stp k), 0) else (Dm.zero, 6)
  else (Dm.zero, 10)

/-- A valid size drawn again in units, one after the other. -/
def redr (d : Dm) : List Int → Option Dm
  | [] => some d
  | k :: r => if agnOk d (stp k) = true then redr (agn d (stp k)) r else none

/-- A size drawn again in units, and the error. -/
def redraw (d : Dm) (l : List Int) : Dm × Int :=
  if vd d = true then
    if 20 < l.length then (Dm.zero, 4)
    else if l.any (fun k => decide (stp k = 0)) = true then (Dm.zero, 11)
    else match redr d l with
      | some x => (x, 0)
      | none => (Dm.zero, 6)
  else (Dm.zero, 10)

theorem dm_bd (a s : Int) (h : 1 ≤ s) : a / s * s ≤ a ∧ a - s < a / s * s :=
  ⟨Int.ediv_mul_le a (by omega), by have := Int.lt_ediv_add_one_mul_self a (show (0 : Int) < s by omega); rw [Int.add_mul] at this; omega⟩

theorem stp_bd (k : Int) : 0 ≤ stp k ∧ stp k ≤ 254 := by unfold stp; (repeat split) <;> omega

/-- A clearance may be wanted. -/
def wantedB (lo hi : Int) : Bool := decide (-1000000000 ≤ lo ∧ lo ≤ 1000000000 ∧ -1000000000 ≤ hi ∧ hi ≤ 1000000000 ∧ lo ≤ hi)

def insideV (a b : Dm) : Bool × Int := if vd a = true ∧ vd b = true then (decide (b.l ≤ a.l ∧ a.u ≤ b.u), 0) else (false, 10)

/-- How a hole and a shaft fit: the clearance, its kind, the error. -/
def fitV (a b : Dm) : Int × Int × Int × Int :=
  if vd a = true ∧ vd b = true then (a.l - b.u, a.u - b.l, if 0 ≤ a.l - b.u then 1 else if a.u - b.l ≤ 0 then 2 else 3, 0) else (0, 0, 0, 10)

/-- The widest shaft. -/
def roomD (h : Dm) (lo hi : Int) : Dm := ⟨h.n, max 0 (h.u - hi), min 1000000000 (h.l - lo)⟩
def roomV (h : Dm) (lo hi : Int) : Dm × Int :=
  if vd h = true then if wantedB lo hi = true then if (roomD h lo hi).l ≤ (roomD h lo hi).u then (roomD h lo hi, 0) else (Dm.zero, 6) else (Dm.zero, 2) else (Dm.zero, 10)

/-- What is lost, and the error. -/
def lostV (d : Dm) (k : Int) : Int × Int × Int := if (conv d k).2 = 0 then ((conv d k).1.l - d.l, d.u - (conv d k).1.u, 0) else (0, 0, (conv d k).2)

theorem nom_bd (n s : Int) (h0 : 0 ≤ n) (h1 : n ≤ 1000000000) (s0 : 1 ≤ s) : 0 ≤ nom n s ∧ nom n s ≤ 1000000000 := by
  have h := dm_bd n s s0
  have h2 : 0 ≤ n / s * s := Int.mul_nonneg (Int.ediv_nonneg h0 (by omega)) (by omega)
  unfold nom
  split <;> omega

theorem agn_bd (d : Dm) (s : Int) (hv : vd d = true) (s0 : 1 ≤ s) (s1 : s ≤ 254) :
    0 ≤ (agn d s).n ∧ (agn d s).n ≤ 1000000000 ∧ 0 ≤ (agn d s).l ∧ (agn d s).l ≤ 1000000253 ∧ 0 ≤ (agn d s).u ∧ (agn d s).u ≤ 1000000000 ∧ d.l ≤ (agn d s).l ∧ (agn d s).u ≤ d.u := by
  obtain ⟨x0, x1, x2, x3, x4⟩ := of_decide_eq_true hv
  obtain ⟨n0, n1⟩ := nom_bd d.n s x0 x1 s0
  obtain ⟨a0, a1⟩ := dm_bd (d.l + s - 1) s s0
  obtain ⟨b0, b1⟩ := dm_bd d.u s s0
  have h2 : 0 ≤ (d.l + s - 1) / s * s := Int.mul_nonneg (Int.ediv_nonneg (by omega) (by omega)) (by omega)
  have h3 : 0 ≤ d.u / s * s := Int.mul_nonneg (Int.ediv_nonneg (by omega) (by omega)) (by omega)
  simp only [agn]
  omega

/-- A size drawn again is valid again. -/
theorem agn_vd (d : Dm) (s : Int) (hv : vd d = true) (s0 : 1 ≤ s) (s1 : s ≤ 254) (ho : agnOk d s = true) : vd (agn d s) = true := by
  obtain ⟨h1, h2, h3, h4, h5, h6, h7, h8⟩ := agn_bd d s hv s0 s1
  have := of_decide_eq_true ho
  exact decide_eq_true ⟨by omega, by omega, by omega, by omega, by omega⟩

theorem conv_bd (d : Dm) (k : Int) (h : (conv d k).2 = 0) : 0 ≤ d.l ∧ d.l ≤ (conv d k).1.l ∧ (conv d k).1.l ≤ (conv d k).1.u ∧ (conv d k).1.u ≤ d.u ∧ d.u ≤ 1000000000 ∧ vd (conv d k).1 = true := by
  unfold conv at *
  by_cases hv : vd d = true
  · by_cases hs : stp k = 0
    · simp [hv, hs] at h
    · by_cases ho : agnOk d (stp k) = true
      · have hb := stp_bd k
        obtain ⟨x0, x1, x2, x3, x4⟩ := of_decide_eq_true hv
        obtain ⟨h1, h2, h3, h4, h5, h6, h7, h8⟩ := agn_bd d (stp k) hv (by omega) (by omega)
        have := of_decide_eq_true ho
        rw [if_pos hv, if_neg hs, if_pos ho]
        exact ⟨x2, h7, this, h8, x4, agn_vd d _ hv (by omega) (by omega) ho⟩
      · simp [hv, hs, ho] at h
  · simp [hv] at h

end Go.Proofs.YtdpmioiamcgfkaaDoor
