/-
  What the program's exported functions on registers compute: Check, Drawings, Last, At, Depth.
-/
import Derived.Test.YtdpmioiamcgfkaaDoorEi
namespace Go.Proofs.YtdpmioiamcgfkaaDoor
open Go.RowKit

theorem open_listed {r : List Iss} (h : openV r = 0) : listedB r = true := by
  unfold openV at h
  split at h
  · assumption
  · cases h
theorem listed_20 {r : List Iss} (h : listedB r = true) : (nums r).length ≤ 20 := by
  simp only [listedB, Bool.and_eq_true, decide_eq_true_eq] at h; exact h.2
theorem listed_60 {r : List Iss} (h : listedB r = true) : 1 ≤ r.length ∧ r.length ≤ 60 := by
  simp only [listedB, Bool.and_eq_true, decide_eq_true_eq, inR] at h; have := h.1.1.1.1; omega
theorem listed_iss {r : List Iss} (h : listedB r = true) {x : Iss} (hx : x ∈ r) : issB x = true := by
  simp only [listedB, Bool.and_eq_true] at h; exact List.all_eq_true.1 h.1.1.1.2 x hx
theorem listed_ord {r : List Iss} (h : listedB r = true) {i : Nat} (hi : i < r.length) : ordB r i = true := by
  simp only [listedB, Bool.and_eq_true] at h; exact range_all.1 h.1.1.2 i hi
theorem listed_in {r : List Iss} (h : listedB r = true) {x : Iss} (hx : x ∈ r) : ItsIn r x := fun y hy => by
  simp only [listedB, Bool.and_eq_true, inB] at h
  exact of_decide_eq_true (List.all_eq_true.1 (List.all_eq_true.1 h.1.2 x hx) y hy)
theorem nums_sml {r : List Iss} (h : Sml r) : Sml (nums r) := by have := nums_len r; unfold Sml at *; omega
theorem nums_le {r : List Iss} (h : Ord r) : (nums r).Pairwise (· ≤ ·) := (nums_lt h).imp fun h => Int.le_of_lt h
theorem ord_map {r : List Iss} (hO : Ord r) : (r.map (·.d)).Pairwise (· ≤ ·) := by
  rw [List.pairwise_map, List.pairwise_iff_getElem]
  intro i j hi hj hij
  have := hO.mono (Nat.le_of_lt hij) hj
  rwa [at_eq hi, at_eq hj] at this

/-- One issue lies behind another. -/
def Lx (x y : Iss) : Prop := x.d < y.d ∨ (x.d = y.d ∧ x.l < y.l)
theorem lex_at {r : List Iss} (h : listedB r = true) : ∀ {i j : Nat}, i < j → j < r.length → Lx (at' r i) (at' r j) := by
  intro i j hij hj
  induction j with
  | zero => omega
  | succ j ih =>
    have step : Lx (at' r j) (at' r (j + 1)) := by
      have := listed_ord h hj
      simp only [ordB] at this
      split at this
      · cases this
      · split at this
        · rename_i h2; exact .inl h2
        · simp only [Bool.and_eq_true, decide_eq_true_eq] at this
          exact .inr ⟨by omega, by omega⟩
    by_cases e : i = j
    · subst e; exact step
    · have := ih (by omega) (by omega)
      unfold Lx at *
      omega
theorem find_own {r : List Iss} (h : listedB r = true) : ∀ y ∈ r, findN y.d y.l r = some y := fun y hy => by
  obtain ⟨i, hi, rfl⟩ := List.getElem_of_mem hy
  refine findN_at hi rfl rfl fun j hj hij => ?_
  have := lex_at h hij hi
  rw [at_eq hj, at_eq hi] at this
  unfold Lx at this
  omega

/-- The error that a register has, or that a drawing is not in it. -/
def knV (r : List Iss) (n : Int) : Int := if openV r = 0 then if n ∈ nums r then 0 else 6 else openV r

section
variable {G : Nat → Option (List AV)}

theorem known_pc (hG : GC G) (r : List Iss) (n : Int) (h : Wf r) : PC Tryd.prog G 68 [rega r, .int .i64 n] (.tup [if knV r n = 0 then bkA r (nums r) else .nilp, .int .i64 (knV r n)]) := by
  (refine pc_sheet_known (Nat.le_of_ble_eq_true rfl) fun R hG hrd => GO_AR mixed 1000 ?_; subst hG)
  simp -implicitDefEqProofs [rc_sheet_known, rr_sheet_known, rega]
  (first | refine CallK.of (open_pc hG r h) (by simp) ?_ | refine CallD.of (open_pc hG r h) (by simp) ?_)
  by_cases e : openV r = 0
  · have hL := open_listed e
    have hO := ord_of hL
    simp -implicitDefEqProofs [openA, e]
    (first | refine CallK.of (has_pc r (nums r) n (nums_le hO) (nums_sml h.1.1)) (by simp) ?_ | refine CallD.of (has_pc r (nums r) n (nums_le hO) (nums_sml h.1.1)) (by simp) ?_)
    by_cases e2 : n ∈ nums r
    · simp -implicitDefEqProofs [knV, e, e2, bkA]
    · simp -implicitDefEqProofs [knV, e, e2]
  · simp -implicitDefEqProofs [openA, e, knV]

theorem checkP_pc (hG : GC G) (r : List Iss) (h : Wf r) : PC Tryd.prog G 24 [rega r] (.int .i64 (openV r)) := by
  (refine pc_sheet_Check (Nat.le_of_ble_eq_true rfl) fun R hG hrd => GO_AR mixed 1000 ?_; subst hG)
  simp -implicitDefEqProofs [rc_sheet_Check, rr_sheet_Check, rega]
  (first | refine CallK.of (open_pc hG r h) (by simp) ?_ | refine CallD.of (open_pc hG r h) (by simp) ?_)
  simp -implicitDefEqProofs [openA]

theorem drawP_pc (hG : GC G) (r : List Iss) (h : Wf r) : PC Tryd.prog G 20 [rega r] (.tup [.vsl ((if openV r = 0 then nums r else []).map ia), .int .i64 (openV r)]) := by
  by_cases e : openV r = 0
  · (refine pc_sheet_Drawings (Nat.le_of_ble_eq_true rfl) fun R hG hrd => GO_AR mixed 1000 ?_; subst hG)
    simp -implicitDefEqProofs [rc_sheet_Drawings, rr_sheet_Drawings, rega]
    (first | refine CallK.of (open_pc hG r h) (by simp) ?_ | refine CallD.of (open_pc hG r h) (by simp) ?_)
    simp -implicitDefEqProofs [openA, e, bkA]
  · refine PC.nzR (v := .tup [.nils, .int .i64 (openV r)]) ?_ (by simp [nz, e])
    (refine pc_sheet_Drawings (Nat.le_of_ble_eq_true rfl) fun R hG hrd => GO_AR mixed 1000 ?_; subst hG)
    simp -implicitDefEqProofs [rc_sheet_Drawings, rr_sheet_Drawings, rega]
    (first | refine CallK.of (open_pc hG r h) (by simp) ?_ | refine CallD.of (open_pc hG r h) (by simp) ?_)
    simp -implicitDefEqProofs [openA, e]

theorem lastP_pc (hG : GC G) (r : List Iss) (n : Int) (h : Wf r) : PC Tryd.prog G 22 [rega r, .int .i64 n] (.tup [.int .i64 (if knV r n = 0 then cntV r n else 0), .int .i64 (knV r n)]) := by
  (refine pc_sheet_Last (Nat.le_of_ble_eq_true rfl) fun R hG hrd => GO_AR mixed 1000 ?_; subst hG)
  simp -implicitDefEqProofs [rc_sheet_Last, rr_sheet_Last, rega]
  (first | refine CallK.of (known_pc hG r n h) (by simp) ?_ | refine CallD.of (known_pc hG r n h) (by simp) ?_)
  by_cases e : knV r n = 0
  · have e1 : openV r = 0 := by
      unfold knV at e
      split at e
      · assumption
      · exact e
    have hO := ord_of (open_listed e1)
    simp -implicitDefEqProofs [e]
    (first | refine CallK.of (last_pc r (nums r) n (ord_map hO) h.1.1) (by simp) ?_ | refine CallD.of (last_pc r (nums r) n (ord_map hO) h.1.1) (by simp) ?_)
    simp -implicitDefEqProofs []
  · simp -implicitDefEqProofs [e]

theorem depthP_pc (hG : GC G) (r : List Iss) (n : Int) (h : Wf r) : PC Tryd.prog G 29 [rega r, .int .i64 n] (.tup [.int .i64 (if knV r n = 0 then dpG (dRun r (nums r).length).1 n else 0), .int .i64 (knV r n)]) := by
  (refine pc_sheet_Depth (Nat.le_of_ble_eq_true rfl) fun R hG hrd => GO_AR mixed 1000 ?_; subst hG)
  simp -implicitDefEqProofs [rc_sheet_Depth, rr_sheet_Depth, rega]
  (first | refine CallK.of (known_pc hG r n h) (by simp) ?_ | refine CallD.of (known_pc hG r n h) (by simp) ?_)
  by_cases e : knV r n = 0
  · have e1 : openV r = 0 := by
      unfold knV at e
      split at e
      · assumption
      · exact e
    have hL := open_listed e1
    simp -implicitDefEqProofs [e]
    (first | refine CallK.of (depths_pc r h (ord_of hL) (listed_20 hL)) (by simp) ?_ | refine CallD.of (depths_pc r h (ord_of hL) (listed_20 hL)) (by simp) ?_)
    simp -implicitDefEqProofs [get_dp, dpG]
    cases q : dpLk n (dRun r (nums r).length).1 <;> simp -implicitDefEqProofs [q]
  · simp -implicitDefEqProofs [e]

theorem ren_rowI (ρ : Nat → Nat) (l : List (Int × Int)) : (AObj.row 2 (l.map ita)).ren ρ = .row 2 (l.map ita) := by
  simp only [AObj.ren, List.map_map]
  congr 2
  funext p; simp [ita, AV.ren]
theorem ren_rowD (ρ : Nat → Nat) (l : List Dm) : (AObj.row 3 (l.map dma)).ren ρ = .row 3 (l.map dma) := by
  simp only [AObj.ren, List.map_map]
  congr 2
  funext p; simp [dma, AV.ren]

/-- What At returns. -/
def atP (r : List Iss) (d l : Int) : Iss × Int := if openV r = 0 then match findN d l r with
    | some x => (x, 0)
    | none => (zI, 6)
  else (zI, openV r)
/-- An issue whose lists are owned. -/
def owI (k k2 : Nat) (x : Iss) : AV := .agg [.int .i64 x.d, .int .i64 x.l, .int .u8 x.k, owV k (x.its.map ita), owV k2 (x.dms.map dma)]
def owQ (k k2 : Nat) (x : Iss) : List (Nat × AObj) := owO k 2 (x.its.map ita) ++ owO k2 3 (x.dms.map dma)

theorem atP_pb (hG : GC G) (r : List Iss) (d l : Int) (h : Wf r) : (openV r = 0 → (findN d l r).isSome = true → PB Tryd.prog G 27 [] [rega r, .agg [.int .i64 d, .int .i64 l]] (.tup [owI 1005 1008 (atP r d l).1, .int .i64 (atP r d l).2]) (owQ 1005 1008 (atP r d l).1)) := by
  intro e hf
  obtain ⟨x, hf⟩ := Option.isSome_iff_exists.1 hf
  refine PBo_of newK (by intro k hk; simp [newK] at hk; omega) Tryd.func27 rfl (by kernel_rfl) (rc := rc_sheet_At) (by kernel_rfl) (rs := rr_sheet_At) (by kernel_rfl) (Nat.le_of_ble_eq_true rfl) fun R _ hG' hrd => GO_AR mixed 1000 ?_
  subst hG'
  have hL := open_listed e
  have hO := ord_of hL
  have hx := h.1.2 x (findN_mem hf).1
  have ev : atP r d l = (x, 0) := by simp [atP, e, hf]
  rw [ev]
  simp -implicitDefEqProofs [rc_sheet_At, rr_sheet_At, rega]
  (first | refine CallK.of (open_pc hG r h) (by simp) ?_ | refine CallD.of (open_pc hG r h) (by simp) ?_)
  simp -implicitDefEqProofs [openA, e]
  (first | refine CallK.of (find_pcS r (nums r) d l (ord_map hO) h.1.1 (find_own hL)) (by simp) ?_ | refine CallD.of (find_pcS r (nums r) d l (ord_map hO) h.1.1 (find_own hL)) (by simp) ?_)
  simp -implicitDefEqProofs [hf, fndA, isa]
  by_cases e1 : x.its = [] <;> by_cases e2 : x.dms = []
  · refine CallK.sem (CallSem.objs (copied_pb x hx.1 hx.2) (fun k => k + 1000) (by simp [owO, e1, e2]) (by simp [owO, e1, e2]) (by simp [isa, e1, e2]) rfl rfl) ?_
    simp -implicitDefEqProofs [owV, owO, owI, owQ, e1, e2, setsB, AV.ren, FinO, frzSt, newK, frzA, frz, AV.keys]
  · refine CallK.sem (CallSem.objs (copied_pb x hx.1 hx.2) (fun k => k + 1000) (by simp [owO, e1, e2]) (by simp [owO, e1, e2, St.get, lk]) (by simp [isa, e1]) rfl rfl) ?_
    simp -implicitDefEqProofs [owV, owO, owI, owQ, e1, e2, setsB, ren_rowD, AV.ren, FinO, frzSt, newK, frz_rowD, frzA, frz, AV.keys]
  · refine CallK.sem (CallSem.objs (copied_pb x hx.1 hx.2) (fun k => k + 1000) (by simp [owO, e1, e2]) (by simp [owO, e1, e2, St.get, lk]) (by simp [isa, e2]) rfl rfl) ?_
    simp -implicitDefEqProofs [owV, owO, owI, owQ, e1, e2, setsB, ren_rowI, AV.ren, FinO, frzSt, newK, frz_rowI, frzA, frz, AV.keys]
  · refine CallK.sem (CallSem.objs (copied_pb x hx.1 hx.2) (fun k => k + 1000) (by simp [owO, e1, e2]) (by simp [owO, e1, e2, St.get, lk]) (by simp [isa]) rfl rfl) ?_
    simp -implicitDefEqProofs [owV, owO, owI, owQ, e1, e2, setsB, ren_rowI, ren_rowD, AV.ren, FinO, frzSt, newK, frz_rowI, frz_rowD, frzA, frz, AV.keys]
end
end Go.Proofs.YtdpmioiamcgfkaaDoor
