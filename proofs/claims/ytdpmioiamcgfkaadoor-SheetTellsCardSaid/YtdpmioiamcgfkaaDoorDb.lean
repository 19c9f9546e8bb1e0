/-
  What the reference's functions on registers compute: the same, twins, numbers, the last letter, an issue.
-/
import Derived.Test.YtdpmioiamcgfkaaDoorDa
namespace Go.Proofs.YtdpmioiamcgfkaaDoor
open Go.RowKit

/-- An empty list for one that is nil. -/
def nz : AV → AV
  | .nils => .vsl []
  | .agg xs => .agg (xs.attach.map fun ⟨x, _⟩ => nz x)
  | .tup xs => .tup (xs.attach.map fun ⟨x, _⟩ => nz x)
  | x => x
theorem nz_at (xs : List AV) : (xs.attach.map fun ⟨x, _⟩ => nz x) = xs.map nz := by
  have h : (xs.attach.map fun ⟨x, _⟩ => nz x) = (xs.attach.map Subtype.val).map nz := by rw [List.map_map]; rfl
  rw [h, List.attach_map_subtype_val]
theorem nz_agg (xs : List AV) : nz (.agg xs) = .agg (xs.map nz) := by rw [nz, nz_at]
theorem nz_tup (xs : List AV) : nz (.tup xs) = .tup (xs.map nz) := by rw [nz, nz_at]
theorem PV.nz {M : Nat → Prop} {W : World} {x : AV} {v : Value} (h : PV M W x v) : PV M W (nz x) v := by
  induction h with
  | nils => simp only [Go.Proofs.YtdpmioiamcgfkaaDoor.nz]; exact .vsl [] none 0 1 0 0 (fun _ _ => undef) (Nat.le_refl _) (Nat.zero_le _) (fun h => absurd rfl h) (fun _ => ⟨rfl, rfl⟩) (by simp) (by simp) (by simp)
  | agg xs us h1 hx ih =>
    rw [nz_agg]
    refine .agg _ us (by simpa using h1) fun i x u hi hu => ?_
    rw [List.getElem?_map, Option.map_eq_some_iff] at hi
    obtain ⟨y, hy, rfl⟩ := hi
    exact ih i y u hy hu
  | tup xs us h1 hx ih =>
    rw [nz_tup]
    refine .tup _ us (by simpa using h1) fun i x u hi hu => ?_
    rw [List.getElem?_map, Option.map_eq_some_iff] at hi
    obtain ⟨y, hy, rfl⟩ := hi
    exact ih i y u hy hu
  | hole => simp only [Go.Proofs.YtdpmioiamcgfkaaDoor.nz]; exact .hole
  | int k n => simp only [Go.Proofs.YtdpmioiamcgfkaaDoor.nz]; exact .int k n
  | bool b => simp only [Go.Proofs.YtdpmioiamcgfkaaDoor.nz]; exact .bool b
  | abool b => simp only [Go.Proofs.YtdpmioiamcgfkaaDoor.nz]; exact .abool b
  | str s => simp only [Go.Proofs.YtdpmioiamcgfkaaDoor.nz]; exact .str s
  | nilp => simp only [Go.Proofs.YtdpmioiamcgfkaaDoor.nz]; exact .nilp
  | nilm => simp only [Go.Proofs.YtdpmioiamcgfkaaDoor.nz]; exact .nilm
  | nilf => simp only [Go.Proofs.YtdpmioiamcgfkaaDoor.nz]; exact .nilf
  | vptr cells off b o f hb hM hc hr ih => simp only [Go.Proofs.YtdpmioiamcgfkaaDoor.nz]; exact .vptr cells off b o f hb hM hc hr
  | vsl rows a cap sz b o f hcap hmax ha hn hs hc hr ih => simp only [Go.Proofs.YtdpmioiamcgfkaaDoor.nz]; exact .vsl rows a cap sz b o f hcap hmax ha hn hs hc hr
  | func fn xs ys us vs h1 h2 hx hy ihx ihy => simp only [Go.Proofs.YtdpmioiamcgfkaaDoor.nz]; exact .func fn xs ys us vs h1 h2 hx hy
  | vmap kvs b es clock hb hM ho hs hn hk' hv ihk ihv => simp only [Go.Proofs.YtdpmioiamcgfkaaDoor.nz]; exact .vmap kvs b es clock hb hM ho hs hn hk' hv
/-- Arguments that are nil, and results. -/
theorem PC.nzA {P : Program} {G : Nat → Option (List AV)} {f : FuncId} {args args' : List AV} {v : AV} (h : PC P G f args' v) (e : args.map nz = args') : PC P G f args v := by
  subst e
  refine ⟨h.1, fun M W vs hM hG hs hv => h.2 M W vs hM hG (by simpa using hs) fun i y u hi hu => ?_⟩
  rw [List.getElem?_map, Option.map_eq_some_iff] at hi
  obtain ⟨x, hx, rfl⟩ := hi
  exact (hv i x u hx hu).nz
theorem PC.nzR {P : Program} {G : Nat → Option (List AV)} {f : FuncId} {args : List AV} {v v' : AV} (h : PC P G f args v) (e : nz v = v') : PC P G f args v' := by
  subst e
  refine ⟨h.1, fun M W vs hM hG hs hv => (h.2 M W vs hM hG hs hv).mono ?_⟩
  rintro e W' ⟨u, h1, h2, h3⟩
  exact ⟨u, h1, h2.nz, h3⟩

theorem pair_ne {a b : Int × Int} (h : ¬ a = b) : (!decide (a.1 = b.1) || !decide (a.2 = b.2)) = true := by
  cases h5 : (!decide (a.1 = b.1) || !decide (a.2 = b.2))
  · simp only [Bool.or_eq_false_iff, Bool.not_eq_false', decide_eq_true_eq] at h5
    exact absurd (Prod.ext h5.1 h5.2) h
  · rfl
theorem dm_ne {a b : Dm} (h : ¬ a = b) : (!decide (a.n = b.n) || (!decide (a.l = b.l) || !decide (a.u = b.u))) = true := by
  cases h5 : (!decide (a.n = b.n) || (!decide (a.l = b.l) || !decide (a.u = b.u)))
  · simp only [Bool.or_eq_false_iff, Bool.not_eq_false', decide_eq_true_eq] at h5
    cases a; cases b; simp_all
  · rfl

section
variable {G : Nat → Option (List AV)}

theorem sameItems_pc (a b : List (Int × Int)) (ha : Sml a) : PC Tryd.prog G 37 [.vsl (a.map ita), .vsl (b.map ita)] (.bool (decide (a = b))) := by
  (refine pc_ref02_SameItems (Nat.le_of_ble_eq_true rfl) fun R hG hrd => GO_AR mixed 1000 ?_; subst hG)
  by_cases hl : a.length = b.length
  · have hl' : (a.length : Int) = b.length := by omega
    simp -implicitDefEqProofs [rc_ref02_SameItems, rr_ref02_SameItems, hl']
    refine AR_for (fun i => ⟨[(5, .int .i64 i), (0, .vsl (a.map ita)), (1, .vsl (b.map ita))], []⟩) (fun i => ∀ j (h : j < a.length), j < i → a[j] = b[j]) a.length (by (first | exact Weak.tm (by simp [lk]) | exact Weak.sub (by simp [lk, keptA, AV.keys]) (by simp [lk, keptO, keptA, AV.keys]))) (by simp) ?_ ?_
    · intro i hi he
      refine GO_AR mixed 1000 ?_
      unfold Sml at ha
      have hi2 : i < b.length := by omega
      have w1 : IntKind.i64.wrap ((i : Int) + 1) = ((i + 1 : Nat) : Int) := wrapI (by omega) (by omega)
      simp -implicitDefEqProofs [hi, hi2, ita]
      refine ⟨rfl, ?_⟩
      by_cases h2 : a[i] = b[i]
      · simp -implicitDefEqProofs [h2, w1]
        refine ⟨(by (first | exact Weak.tm (by simp [lk]) | exact Weak.sub (by simp [lk, keptA, AV.keys]) (by simp [lk, keptO, keptA, AV.keys]))), fun j h1 h3 => ?_⟩
        by_cases e : j = i
        · subst e; exact h2
        · exact he j h1 (by omega)
      · have h3 : ¬ a = b := fun e => h2 (by subst e; rfl)
        rw [pair_ne h2]
        simp -implicitDefEqProofs []
        refine GO_ret mixed 1000 ?_
        simp -implicitDefEqProofs [h3]
    · intro he
      refine GO_AR mixed 1000 ?_
      have h3 : a = b := List.ext_getElem hl fun j h1 h2 => he j h1 h1
      simp -implicitDefEqProofs []
      refine GO_ret mixed 1000 ?_
      simp -implicitDefEqProofs [h3]
  · have hl' : ¬ (a.length : Int) = b.length := by omega
    have h3 : ¬ a = b := fun e => hl (by rw [e])
    simp -implicitDefEqProofs [rc_ref02_SameItems, rr_ref02_SameItems, hl', h3]

theorem sameIssue_pc (a b : Iss) (h1 : Sml a.its) (h2 : Sml a.dms) : PC Tryd.prog G 31 [.agg (isa a), .agg (isa b)] (.bool (decide (a = b))) := by
  (refine pc_ref02_SameIssue (Nat.le_of_ble_eq_true rfl) fun R hG hrd => GO_AR mixed 1000 ?_; subst hG)
  by_cases e1 : a.d = b.d
  case neg =>
    have e : ¬ a = b := fun e => e1 (by rw [e])
    simp -implicitDefEqProofs [rc_ref02_SameIssue, rr_ref02_SameIssue, isa, e1, e]
  by_cases e2 : a.l = b.l
  case neg =>
    have e : ¬ a = b := fun e => e2 (by rw [e])
    simp -implicitDefEqProofs [rc_ref02_SameIssue, rr_ref02_SameIssue, isa, e1, e2, e]
  by_cases e3 : a.k = b.k
  case neg =>
    have e : ¬ a = b := fun e => e3 (by rw [e])
    simp -implicitDefEqProofs [rc_ref02_SameIssue, rr_ref02_SameIssue, isa, e1, e2, e3, e]
  simp -implicitDefEqProofs [rc_ref02_SameIssue, rr_ref02_SameIssue, isa, e1, e2, e3]
  (first | refine CallK.of (sameItems_pc a.its b.its h1) (by simp) ?_ | refine CallD.of (sameItems_pc a.its b.its h1) (by simp) ?_)
  by_cases e4 : a.its = b.its
  case neg =>
    have e : ¬ a = b := fun e => e4 (by rw [e])
    simp -implicitDefEqProofs [e4, e]
  by_cases e5 : a.dms.length = b.dms.length
  case neg =>
    have e5' : ¬ (a.dms.length : Int) = b.dms.length := by omega
    have e : ¬ a = b := fun e => e5 (by rw [e])
    simp -implicitDefEqProofs [e4, e5', e]
  have e5' : (a.dms.length : Int) = b.dms.length := by omega
  simp -implicitDefEqProofs [e4, e5']
  refine AR_for (fun i => ⟨[(5, .int .i64 i), (2, .ptr 2 0), (3, .ptr 3 0)], [(2, .box (isa a)), (3, .box (isa b))]⟩) (fun i => ∀ j (h : j < a.dms.length), j < i → a.dms[j] = b.dms[j]) a.dms.length (by (first | exact Weak.tm (by simp [lk, isa, e1, e2, e3, e4]) | exact Weak.sub (by simp [lk, keptA, AV.keys, isa, e1, e2, e3, e4]) (by simp [lk, keptO, keptA, AV.keys, isa, e1, e2, e3, e4]))) (by simp) ?_ ?_
  · intro i hi he
    refine GO_AR mixed 1000 ?_
    unfold Sml at h2
    have hi2 : i < b.dms.length := by omega
    have w1 : IntKind.i64.wrap ((i : Int) + 1) = ((i + 1 : Nat) : Int) := wrapI (by omega) (by omega)
    simp -implicitDefEqProofs [hi, hi2, isa, dma]
    refine ⟨rfl, ?_⟩
    by_cases h2 : a.dms[i] = b.dms[i]
    · simp -implicitDefEqProofs [h2, w1]
      refine ⟨(by (first | exact Weak.tm (by simp [lk, isa, dma]) | exact Weak.sub (by simp [lk, keptA, AV.keys, isa, dma]) (by simp [lk, keptO, keptA, AV.keys, isa, dma]))), fun j h1 h3 => ?_⟩
      by_cases e : j = i
      · subst e; exact h2
      · exact he j h1 (by omega)
    · have h3 : ¬ a = b := fun e => h2 (by subst e; rfl)
      rw [dm_ne h2]
      simp -implicitDefEqProofs []
      refine GO_ret mixed 1000 ?_
      simp -implicitDefEqProofs [h3]
  · intro he
    refine GO_AR mixed 1000 ?_
    have h3 : a.dms = b.dms := List.ext_getElem e5 fun j h1 h2 => he j h1 h1
    have h4 : a = b := by cases a; cases b; simp_all
    simp -implicitDefEqProofs [isa]
    refine GO_ret mixed 1000 ?_
    simp -implicitDefEqProofs [h4]

/-- All lists of a register are such that a machine can hold them. -/
def SmlR (r : List Iss) : Prop := Sml r ∧ ∀ x ∈ r, Sml x.its ∧ Sml x.dms

theorem same_pc (a b : List Iss) (ha : SmlR a) : PC Tryd.prog G 32 [rega a, rega b] (.bool (decide (a = b))) := by
  (refine pc_ref02_Same (Nat.le_of_ble_eq_true rfl) fun R hG hrd => GO_AR mixed 1000 ?_; subst hG)
  by_cases hl : a.length = b.length
  · have hl' : (a.length : Int) = b.length := by omega
    simp -implicitDefEqProofs [rc_ref02_Same, rr_ref02_Same, hl', rega]
    refine AR_for (fun i => ⟨[(5, .int .i64 i), (2, .ptr 2 0), (3, .ptr 3 0)], [(2, .box [.vsl (a.map isa)]), (3, .box [.vsl (b.map isa)])]⟩) (fun i => ∀ j (h : j < a.length), j < i → a[j] = b[j]) a.length (by (first | exact Weak.tm (by simp [lk]) | exact Weak.sub (by simp [lk, keptA, AV.keys]) (by simp [lk, keptO, keptA, AV.keys]))) (by simp) ?_ ?_
    · intro i hi he
      refine GO_AR mixed 1000 ?_
      have hs := ha.1
      unfold Sml at hs
      have hi2 : i < b.length := by omega
      have w1 : IntKind.i64.wrap ((i : Int) + 1) = ((i + 1 : Nat) : Int) := wrapI (by omega) (by omega)
      have hx := ha.2 a[i] (List.getElem_mem hi)
      simp -implicitDefEqProofs [hi, hi2, isa]
      (first | refine CallK.of (sameIssue_pc a[i] b[i] hx.1 hx.2) (by simp) ?_ | refine CallD.of (sameIssue_pc a[i] b[i] hx.1 hx.2) (by simp) ?_)
      simp -implicitDefEqProofs []
      refine ⟨rfl, ?_⟩
      by_cases h2 : a[i] = b[i]
      · simp -implicitDefEqProofs [h2, w1]
        refine ⟨(by (first | exact Weak.tm (by simp [lk]) | exact Weak.sub (by simp [lk, keptA, AV.keys]) (by simp [lk, keptO, keptA, AV.keys]))), fun j h1 h3 => ?_⟩
        by_cases e : j = i
        · subst e; exact h2
        · exact he j h1 (by omega)
      · have h3 : ¬ a = b := fun e => h2 (by subst e; rfl)
        simp -implicitDefEqProofs [h2]
        refine GO_ret mixed 1000 ?_
        simp -implicitDefEqProofs [h3]
    · intro he
      refine GO_AR mixed 1000 ?_
      have h3 : a = b := List.ext_getElem hl fun j h1 h2 => he j h1 h1
      simp -implicitDefEqProofs []
      refine GO_ret mixed 1000 ?_
      simp -implicitDefEqProofs [h3]
  · have hl' : ¬ (a.length : Int) = b.length := by omega
    have h3 : ¬ a = b := fun e => hl (by rw [e])
    simp -implicitDefEqProofs [rc_ref02_Same, rr_ref02_Same, hl', h3, rega]

end
end Go.Proofs.YtdpmioiamcgfkaaDoor
