/-
  The reference's Twin, by the abstract machine.
-/
import Derived.Test.YtdpmioiamcgfkaaDoorEk
namespace Go.Proofs.YtdpmioiamcgfkaaDoor
open Go.RowKit

def twR (r : List Iss) (i : Nat) : List (List AV) := (r.take i).map isa
theorem twR_len {r : List Iss} {i : Nat} (h : i ≤ r.length) : (twR r i).length = i := by simp [twR]; omega
theorem twR_succ {r : List Iss} {i : Nat} (h : i < r.length) : twR r (i + 1) = twR r i ++ [[.int .i64 r[i].d, .int .i64 r[i].l, .int .u8 r[i].k, .vsl (r[i].its.map ita), .vsl (r[i].dms.map dma)]] := by
  rw [twR, List.take_succ_eq_append_getElem h, List.map_append]; rfl
theorem twR_kept {r : List Iss} {i : Nat} (o : List (Nat × AObj)) : keptO o (.row 5 (twR r i)) = true := by
  simp only [keptO, List.all_eq_true, twR, List.mem_map]
  rintro x ⟨y, -, rfl⟩ v hv
  simp only [isa, List.mem_cons, List.not_mem_nil, or_false] at hv
  rcases hv with rfl | rfl | rfl | rfl | rfl <;> simp [keptA, AV.keys]
theorem twR_end (r : List Iss) : twR r r.length = r.map isa := by rw [twR, List.take_length]
def twS (r : List Iss) : Nat → St
  | 0 => ⟨[(4, .int .i64 0), (3, .ptr 3 0), (1, .ptr 1 0), (2, .ptr 2 0)], [(1, .box [.vsl (r.map isa)]), (2, .box [.nils]), (3, .box [.nils])]⟩
  | i + 1 => ⟨[(4, .int .i64 (i + 1 : Nat)), (3, .ptr 3 0), (1, .ptr 1 0), (2, .ptr 2 0)], [(1, .box [.vsl (r.map isa)]), (2, .box [.nils]), (3, .box [.osl 21 (i + 1)]), (21, .row 5 (twR r (i + 1)))]⟩

section
variable {G : Nat → Option (List AV)}

theorem twin_pc (r : List Iss) (h : SmlR r) : PC Tryd.prog G 19 [rega r] (rega r) := by
  by_cases h0 : r = []
  · subst h0
    refine PC.nzR (v := .agg [.nils]) ?_ (by simp [nz, rega])
    (refine pc_ref02_Twin (Nat.le_of_ble_eq_true rfl) fun R hG hrd => GO_AR mixed 1000 ?_; subst hG)
    simp -implicitDefEqProofs [rc_ref02_Twin, rr_ref02_Twin, rega]
    refine AR_for (twS []) (fun _ => True) 0 (by simp only [twS]; (first | exact Weak.tm (by simp [lk]) | exact Weak.sub (by simp [lk, keptA, AV.keys]) (by simp [lk, keptO, keptA, AV.keys]))) trivial (fun i hi => by omega) fun _ => ?_
    refine GO_AR mixed 1000 ?_
    simp -implicitDefEqProofs [twS]
    refine GO_ret mixed 1000 ?_
    simp -implicitDefEqProofs []
  · (refine pc_ref02_Twin (Nat.le_of_ble_eq_true rfl) fun R hG hrd => GO_AR mixed 1000 ?_; subst hG)
    have hs := h.1
    unfold Sml at hs
    simp -implicitDefEqProofs [rc_ref02_Twin, rr_ref02_Twin, rega]
    refine AR_for (twS r) (fun _ => True) r.length (by simp only [twS]; (first | exact Weak.tm (by simp [lk]) | exact Weak.sub (by simp [lk, keptA, AV.keys]) (by simp [lk, keptO, keptA, AV.keys]))) trivial ?_ ?_
    · intro i hi _
      refine GO_AR mixed 1000 ?_
      have hx := h.2 r[i] (List.getElem_mem hi)
      have tk := twR_succ hi
      have ln := twR_len (Nat.le_of_lt hi)
      cases i with
      | zero =>
        have w1 : IntKind.i64.wrap 1 = 1 := rfl
        simp -implicitDefEqProofs [twS, hi, isa]
        (first | refine CallK.of (twinIssue_pc r[0] hx.1 hx.2) (by simp) ?_ | refine CallD.of (twinIssue_pc r[0] hx.1 hx.2) (by simp) ?_)
        simp -implicitDefEqProofs [w1, isa]
        refine ⟨rfl, ?_⟩
        have tk0 : twR r 1 = [[.int .i64 r[0].d, .int .i64 r[0].l, .int .u8 r[0].k, .vsl (r[0].its.map ita), .vsl (r[0].dms.map dma)]] := by rw [tk]; simp [twR]
        simp only [twS]
        exact Weak.sub (by simp [lk, keptA, AV.keys]) (by simp [lk, keptO, keptA, AV.keys, tk0])
      | succ i =>
        have w1 : IntKind.i64.wrap ((i : Int) + 1 + 1) = (i : Int) + 1 + 1 := wrapI (by omega) (by omega)
        have k1 : (i : Int) + 1 < r.length := by omega
        have k2 : ((i : Int) + 1).toNat = i + 1 := by omega
        have k3 : (0 : Int) ≤ (i : Int) + 1 := by omega
        have b2 : (i + 1 + 1) * 72 ≤ 70368744177664 := by omega
        simp -implicitDefEqProofs [twS, hi, k1, k2, k3, isa]
        (first | refine CallK.of (twinIssue_pc r[i + 1] hx.1 hx.2) (by simp) ?_ | refine CallD.of (twinIssue_pc r[i + 1] hx.1 hx.2) (by simp) ?_)
        simp -implicitDefEqProofs [w1, ln, b2, isa]
        refine ⟨rfl, ?_⟩
        simp only [twS]
        refine Weak.sub (by simp [lk, keptA, AV.keys]) ?_
        simp only [List.mem_cons, List.not_mem_nil, or_false, forall_eq_or_imp, forall_eq, twR_kept, and_true]
        simp [lk, keptO, keptA, AV.keys, tk]
    · intro _
      refine GO_AR mixed 1000 ?_
      obtain ⟨n, hn⟩ : ∃ n, r.length = n + 1 := ⟨r.length - 1, by
        have : r.length ≠ 0 := by simpa using h0
        omega⟩
      have k1 : ¬ (n : Int) + 1 < n + 1 := by omega
      have e1 : twR r (n + 1) = r.map isa := by rw [← hn, twR_end]
      have pu : (r.map isa).all (fun x => x.all AV.pure) = true := by simp [isa, AV.pure]
      rw [hn]
      simp -implicitDefEqProofs [twS, hn, k1, e1, pu]
      refine GO_ret mixed 1000 ?_
      simp -implicitDefEqProofs [pu, e1, hn]
end
end Go.Proofs.YtdpmioiamcgfkaaDoor
