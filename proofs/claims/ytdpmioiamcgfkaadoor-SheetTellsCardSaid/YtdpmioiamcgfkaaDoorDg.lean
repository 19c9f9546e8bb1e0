/-
  What Check, Drawings, Last, At, Depth of the reference compute.
-/
import Derived.Test.YtdpmioiamcgfkaaDoorDf
namespace Go.Proofs.YtdpmioiamcgfkaaDoor
open Go.RowKit

theorem rega_pure (r : List Iss) : (rega r).pure = true := by simp [rega, AV.pure]
attribute [simp] rega_pure

/-- The longest chain of all. -/
def mostV (l : List Int) (g : Int → Int) : Int := l.foldl (fun m n => max m (g n)) 0
/-- The error of a register. -/
def chkV (r : List Iss) : Int := if listedB r = true then
    if ((nums r).length : Int) < mostV (nums r) (Dv r ((nums r).length + 1)) then 21 else if 6 < mostV (nums r) (Dv r ((nums r).length + 1)) then 20 else 0
  else 20
theorem listed_chk {r : List Iss} (h : chkV r = 0) : listedB r = true := by
  unfold chkV at h
  split at h
  · assumption
  · cases h
def drawV (r : List Iss) : List Int × Int := if chkV r = 0 then (nums r, 0) else ([], chkV r)
def lastE (r : List Iss) (n : Int) : Int × Int := if chkV r = 0 then if lastV r n = 0 then (0, 6) else (lastV r n, 0) else (0, chkV r)
def zI : Iss := ⟨0, 0, 0, [], []⟩
def atV (r : List Iss) (d l : Int) : Iss × Int := if chkV r = 0 then match findN d l r with
    | some x => (x, 0)
    | none => (zI, 6)
  else (zI, chkV r)
def depV (r : List Iss) (n : Int) : Int × Int := if chkV r = 0 then if n ∈ nums r then (Dv r ((nums r).length + 1) n, 0) else (0, 6) else (0, chkV r)

theorem findN_mem {d l : Int} : ∀ {r : List Iss} {x : Iss}, findN d l r = some x → x ∈ r ∧ x.d = d ∧ x.l = l
  | [], x, h => by simp [findN] at h
  | y :: r, x, h => by
    simp only [findN] at h
    split at h
    · rename_i e; cases h; exact ⟨List.mem_cons_self .., e⟩
    · obtain ⟨h1, h2⟩ := findN_mem h; exact ⟨List.mem_cons_of_mem _ h1, h2⟩
theorem mostV_take (l : List Int) (g : Int → Int) (k : Nat) (h : k < l.length) : mostV (l.take (k + 1)) g = max (mostV (l.take k) g) (g l[k]) := by
  rw [List.take_succ_eq_append_getElem h, mostV, List.foldl_append]; rfl

section
variable {G : Nat → Option (List AV)}

theorem checkR_pc (r : List Iss) (h : Wf r) : PC Tryd.prog G 25 [rega r] (.int .i64 (chkV r)) := by
  (refine pc_ref02_Check (Nat.le_of_ble_eq_true rfl) fun R hG hrd => GO_AR mixed 1000 ?_; subst hG)
  simp -implicitDefEqProofs [rc_ref02_Check, rr_ref02_Check, rega]
  (first | refine CallK.of (listed_pc r h) (by simp) ?_ | refine CallD.of (listed_pc r h) (by simp) ?_)
  cases hL : listedB r
  · simp -implicitDefEqProofs [show chkV r = 20 by simp [chkV, hL]]
  simp -implicitDefEqProofs []
  (first | refine CallK.of (depthsR_pc r h hL) (by simp) ?_ | refine CallD.of (depthsR_pc r h hL) (by simp) ?_)
  have hs := h.1.1
  unfold Sml at hs
  have hl := nums_len r
  simp -implicitDefEqProofs []
  refine AR_for (fun k => ⟨[(5, .int .i64 k), (4, .int .i64 (mostV ((nums r).take k) (Dv r ((nums r).length + 1)))), (3, .vsl (rowF (nums r) (Dv r ((nums r).length + 1)))), (1, .ptr 1 0)], [(1, .box [.vsl (r.map isa)])]⟩) (fun _ => True) (nums r).length (by (first | exact Weak.tm (by simp [lk, mostV]) | exact Weak.sub (by simp [lk, keptA, AV.keys, mostV]) (by simp [lk, keptO, keptA, AV.keys, mostV]))) trivial ?_ ?_
  · intro k hk _
    refine GO_AR mixed 1000 ?_
    have w1 : IntKind.i64.wrap ((k : Int) + 1) = ((k + 1 : Nat) : Int) := wrapI (by omega) (by omega)
    have tk := mostV_take (nums r) (Dv r ((nums r).length + 1)) k hk
    simp -implicitDefEqProofs [hk, w1]
    rw [← tk]
    (first | exact Weak.tm (by simp [lk]) | exact Weak.sub (by simp [lk, keptA, AV.keys]) (by simp [lk, keptO, keptA, AV.keys]))
  · intro _
    refine GO_AR mixed 1000 ?_
    simp -implicitDefEqProofs []
    refine GO_ret mixed 1000 ?_
    generalize hm : mostV (nums r) (Dv r ((nums r).length + 1)) = m
    by_cases q1 : ((nums r).length : Int) < m
    · simp -implicitDefEqProofs [q1, show chkV r = 21 by simp [chkV, hL, hm, q1]]
    by_cases q2 : 6 < m
    · simp -implicitDefEqProofs [q1, q2, show chkV r = 20 by simp [chkV, hL, hm, q1, q2]]
    · simp -implicitDefEqProofs [q1, q2, show chkV r = 0 by simp [chkV, hL, hm, q1, q2]]

theorem drawR_pc (r : List Iss) (h : Wf r) : PC Tryd.prog G 21 [rega r] (.tup [.vsl ((drawV r).1.map ia), .int .i64 (drawV r).2]) := by
  by_cases e : chkV r = 0
  · have hL := listed_chk e
    have hne : r ≠ [] := by rintro rfl; simp [listedB, inR] at hL
    (refine pc_ref02_Drawings (Nat.le_of_ble_eq_true rfl) fun R hG hrd => GO_AR mixed 1000 ?_; subst hG)
    simp -implicitDefEqProofs [rc_ref02_Drawings, rr_ref02_Drawings, rega]
    (first | refine CallK.of (checkR_pc r h) (by simp) ?_ | refine CallD.of (checkR_pc r h) (by simp) ?_)
    simp -implicitDefEqProofs [e]
    (first | refine CallK.of (numbers_pc r h.1.1 hne) (by simp) ?_ | refine CallD.of (numbers_pc r h.1.1 hne) (by simp) ?_)
    simp -implicitDefEqProofs [drawV, e]
  · refine PC.nzR (v := .tup [.nils, .int .i64 (chkV r)]) ?_ (by simp [nz_tup, nz, drawV, e])
    (refine pc_ref02_Drawings (Nat.le_of_ble_eq_true rfl) fun R hG hrd => GO_AR mixed 1000 ?_; subst hG)
    simp -implicitDefEqProofs [rc_ref02_Drawings, rr_ref02_Drawings, rega]
    (first | refine CallK.of (checkR_pc r h) (by simp) ?_ | refine CallD.of (checkR_pc r h) (by simp) ?_)
    simp -implicitDefEqProofs [e]

theorem lastR_pc (r : List Iss) (n : Int) (h : Wf r) : PC Tryd.prog G 23 [rega r, .int .i64 n] (.tup [.int .i64 (lastE r n).1, .int .i64 (lastE r n).2]) := by
  (refine pc_ref02_Last (Nat.le_of_ble_eq_true rfl) fun R hG hrd => GO_AR mixed 1000 ?_; subst hG)
  simp -implicitDefEqProofs [rc_ref02_Last, rr_ref02_Last, rega]
  (first | refine CallK.of (checkR_pc r h) (by simp) ?_ | refine CallD.of (checkR_pc r h) (by simp) ?_)
  by_cases e : chkV r = 0
  · simp -implicitDefEqProofs [e]
    (first | refine CallK.of (lastOf_pc r n h.1.1) (by simp) ?_ | refine CallD.of (lastOf_pc r n h.1.1) (by simp) ?_)
    by_cases e2 : lastV r n = 0 <;> simp -implicitDefEqProofs [e2, lastE, e]
  · simp -implicitDefEqProofs [e, lastE]

theorem atR_pc (r : List Iss) (d l : Int) (h : Wf r) : PC Tryd.prog G 28 [rega r, .agg [.int .i64 d, .int .i64 l]] (.tup [.agg (isa (atV r d l).1), .int .i64 (atV r d l).2]) := by
  by_cases e : chkV r = 0
  · cases hf : findN d l r with
    | none =>
      refine PC.nzR (v := .tup [noIs, .int .i64 6]) ?_ (by simp [nz_tup, nz_agg, nz, noIs, atV, e, hf, zI, isa])
      (refine pc_ref02_At (Nat.le_of_ble_eq_true rfl) fun R hG hrd => GO_AR mixed 1000 ?_; subst hG)
      simp -implicitDefEqProofs [rc_ref02_At, rr_ref02_At, rega]
      (first | refine CallK.of (checkR_pc r h) (by simp) ?_ | refine CallD.of (checkR_pc r h) (by simp) ?_)
      simp -implicitDefEqProofs [e]
      (first | refine CallK.of (find_pc r d l h.1.1) (by simp) ?_ | refine CallD.of (find_pc r d l h.1.1) (by simp) ?_)
      simp -implicitDefEqProofs [hf, fndA, noIs]
    | some x =>
      have hx := h.1.2 x (findN_mem hf).1
      (refine pc_ref02_At (Nat.le_of_ble_eq_true rfl) fun R hG hrd => GO_AR mixed 1000 ?_; subst hG)
      simp -implicitDefEqProofs [rc_ref02_At, rr_ref02_At, rega]
      (first | refine CallK.of (checkR_pc r h) (by simp) ?_ | refine CallD.of (checkR_pc r h) (by simp) ?_)
      simp -implicitDefEqProofs [e]
      (first | refine CallK.of (find_pc r d l h.1.1) (by simp) ?_ | refine CallD.of (find_pc r d l h.1.1) (by simp) ?_)
      simp -implicitDefEqProofs [hf, fndA, isa]
      (first | refine CallK.of (twinIssue_pc x hx.1 hx.2) (by simp) ?_ | refine CallD.of (twinIssue_pc x hx.1 hx.2) (by simp) ?_)
      simp -implicitDefEqProofs [atV, e, hf, isa]
  · refine PC.nzR (v := .tup [noIs, .int .i64 (chkV r)]) ?_ (by simp [nz_tup, nz_agg, nz, noIs, atV, e, zI, isa])
    (refine pc_ref02_At (Nat.le_of_ble_eq_true rfl) fun R hG hrd => GO_AR mixed 1000 ?_; subst hG)
    simp -implicitDefEqProofs [rc_ref02_At, rr_ref02_At, rega]
    (first | refine CallK.of (checkR_pc r h) (by simp) ?_ | refine CallD.of (checkR_pc r h) (by simp) ?_)
    simp -implicitDefEqProofs [e, noIs]

theorem depthR_pc (r : List Iss) (n : Int) (h : Wf r) : PC Tryd.prog G 30 [rega r, .int .i64 n] (.tup [.int .i64 (depV r n).1, .int .i64 (depV r n).2]) := by
  (refine pc_ref02_Depth (Nat.le_of_ble_eq_true rfl) fun R hG hrd => GO_AR mixed 1000 ?_; subst hG)
  simp -implicitDefEqProofs [rc_ref02_Depth, rr_ref02_Depth, rega]
  (first | refine CallK.of (checkR_pc r h) (by simp) ?_ | refine CallD.of (checkR_pc r h) (by simp) ?_)
  by_cases e : chkV r = 0
  case neg => simp -implicitDefEqProofs [e, depV]
  have hL := listed_chk e
  have hne : r ≠ [] := by rintro rfl; simp [listedB, inR] at hL
  have hs := h.1.1
  unfold Sml at hs
  have hl := nums_len r
  have hns : Sml (nums r) := by unfold Sml; omega
  simp -implicitDefEqProofs [e]
  (first | refine CallK.of (numbers_pc r h.1.1 hne) (by simp) ?_ | refine CallD.of (numbers_pc r h.1.1 hne) (by simp) ?_)
  simp -implicitDefEqProofs []
  (first | refine CallK.of (index_pc (nums r) n hns) (by simp) ?_ | refine CallD.of (index_pc (nums r) n hns) (by simp) ?_)
  by_cases e2 : n ∈ nums r
  · obtain ⟨j, hj, hlt, hget⟩ := idx_mem e2
    have hgt : (nums r)[j] = n := (List.getElem?_eq_some_iff.1 hget).2
    have nj : ¬ (j : Int) < 0 := by omega
    simp -implicitDefEqProofs [hj, nj]
    (first | refine CallK.of (depthsR_pc r h hL) (by simp) ?_ | refine CallD.of (depthsR_pc r h hL) (by simp) ?_)
    simp -implicitDefEqProofs [hlt, hgt, depV, e, e2]
  · have n1 : idx (nums r) n = -1 := by simp [idx, e2]
    simp -implicitDefEqProofs [n1, depV, e, e2]
end
end Go.Proofs.YtdpmioiamcgfkaaDoor
