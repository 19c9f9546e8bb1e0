/-
  What the functions of package size compute (rounded, exact, of, Room, first, Fit), by the abstract machine.
-/
import Derived.Test.YtikjooemblpnbaaDoorOa
namespace Go.Proofs.YtikjooemblpnbaaDoor
open Go.RowKit

theorem mod_eq (n s : Int) : n - n % s = n / s * s := by
  have := Int.emod_add_mul_ediv n s
  rw [Int.mul_comm] at this
  omega
theorem above_eq (n s : Int) (s0 : 1 ≤ s) : (if n % s = 0 then n else n / s * s + s) = (n + s - 1) / s * s := by
  have h1 := Int.emod_add_mul_ediv n s
  have h2 := Int.emod_nonneg n (show s ≠ 0 by omega)
  have h3 := Int.emod_lt_of_pos n (show 0 < s by omega)
  rw [Int.mul_comm] at h1
  by_cases h : n % s = 0
  · rw [if_pos h]
    have : (n + s - 1) / s = n / s := by
      have e : n + s - 1 = (s - 1) + n / s * s := by omega
      rw [e, Int.add_mul_ediv_right _ _ (by omega), Int.ediv_eq_zero_of_lt (by omega) (by omega)]; omega
    rw [this]; omega
  · rw [if_neg h]
    have : (n + s - 1) / s = n / s + 1 := by
      have e : n + s - 1 = (n % s - 1) + (n / s + 1) * s := by rw [Int.add_mul]; omega
      rw [e, Int.add_mul_ediv_right _ _ (by omega), Int.ediv_eq_zero_of_lt (by omega) (by omega)]; omega
    rw [this, Int.add_mul]; omega

def nameMm : ByteArray := ⟨#[109, 109]⟩
def nameIn : ByteArray := ⟨#[105, 110]⟩
/-- The cells of a unit. -/
def unitCs (k : Int) : List AV :=
  if k = 1 then [.int .i64 100, .int .i64 3, .str nameMm, .func (.func 143) [] []]
  else if k = 2 then [.int .i64 254, .int .i64 4, .str nameIn, .func (.func 143) [] []]
  else [.int .i64 0, .int .i64 0, .str ⟨#[]⟩, .nilf]
/-- The table of units. -/
def unitsT : List AV := [.int .i64 0, .int .i64 0, .str ⟨#[]⟩, .nilf, .int .i64 100, .int .i64 3, .str nameMm, .func (.func 143) [] [], .int .i64 254, .int .i64 4, .str nameIn, .func (.func 143) [] []]

section
variable {G : Nat → Option (List AV)}

theorem rounded_pc (n s : Int) (h0 : 0 ≤ n) (h1 : n ≤ 1000000000) (s0 : 1 ≤ s) (s1 : s ≤ 254) :
    PC Tryd.prog G 143 [.int .i64 n, .int .i64 s] (.tup [.int .i64 (n / s * s), .int .i64 ((n + s - 1) / s * s)]) := by
  (refine pc_size_rounded (Nat.le_of_ble_eq_true rfl) fun R hG => GO_AR mixed 1000 ?_; subst hG)
  have e0 : ¬ s = 0 := by omega
  have e1 : n.tmod s = n % s := Int.tmod_eq_emod_of_nonneg h0
  have b1 := Int.emod_nonneg n e0
  have c1 := Int.emod_lt_of_pos n (show (0 : Int) < s by omega)
  obtain ⟨a0, a1⟩ := dm_bd n s s0
  have p5 : 0 ≤ n / s * s := Int.mul_nonneg (Int.ediv_nonneg h0 (by omega)) (by omega)
  have m := mod_eq n s
  have w1 : IntKind.i64.wrap (n - n % s) = n / s * s := by rw [m]; exact wrapI (by omega) (by omega)
  have w2 : IntKind.i64.wrap (n / s * s + s) = n / s * s + s := wrapI (by omega) (by omega)
  have m2 := above_eq n s s0
  by_cases h2 : n / s * s = n
  · have m3 : (n + s - 1) / s * s = n := by rw [← m2, if_pos (by omega)]
    simp -implicitDefEqProofs [rc_size_rounded, rr_size_rounded, e0, e1, w1, h2, m3]
  · have m3 : (n + s - 1) / s * s = n / s * s + s := by rw [← m2, if_neg (by omega)]
    simp -implicitDefEqProofs [rc_size_rounded, rr_size_rounded, e0, e1, w1, w2, h2, m3]

theorem exactC_pc (n s : Int) (beh : AV) (nm : AV) (fn : AV) (h0 : 0 ≤ n) (s0 : 1 ≤ s) :
    PC Tryd.prog G 83 [.int .i64 n, .vptr [.int .i64 s, beh, nm, fn] 0] (.bool (!decide (n % s = 0))) := by
  (refine pc_size_unit_exact_1 (Nat.le_of_ble_eq_true rfl) fun R hG => GO_AR mixed 1000 ?_; subst hG)
  have e0 : ¬ s = 0 := by omega
  have e1 : n.tmod s = n % s := Int.tmod_eq_emod_of_nonneg h0
  simp -implicitDefEqProofs [rc_size_unit_exact_1, rr_size_unit_exact_1, e0, e1]

theorem exactS_pc (s : Int) (k : Int) (hk : k = 1 ∧ s = 100 ∨ k = 2 ∧ s = 254) (l : List Int) (hl : l.length < 1000000) (h0 : ∀ n ∈ l, 0 ≤ n) :
    PC Tryd.prog G 60 [.agg (unitCs k), .vsl (l.map ics)] (.bool (l.all fun n => decide (n % s = 0))) := by
  (refine pc_size_unit_exact (Nat.le_of_ble_eq_true rfl) fun R hG => GO_AR mixed 1000 ?_; subst hG)
  have e : (!l.any fun n => !decide (n % s = 0)) = l.all fun n => decide (n % s = 0) := by simp [List.all_eq_not_any_not]
  rcases hk with ⟨rfl, rfl⟩ | ⟨rfl, rfl⟩
  · simp -implicitDefEqProofs [rc_size_unit_exact, rr_size_unit_exact, unitCs]
    (first | refine CallK.flat (containsI_pc 83 [.vptr [.int .i64 100, .int .i64 3, .str nameMm, .func (.func 143) [] []] 0] (fun n => !decide (n % 100 = 0)) l (by simp [AV.pure]) hl (fun n hn => exactC_pc n 100 _ _ _ (h0 n hn) (by omega))) (by simp [AV.flat]) (by simp) ?_ | refine CallD.flat (containsI_pc 83 [.vptr [.int .i64 100, .int .i64 3, .str nameMm, .func (.func 143) [] []] 0] (fun n => !decide (n % 100 = 0)) l (by simp [AV.pure]) hl (fun n hn => exactC_pc n 100 _ _ _ (h0 n hn) (by omega))) (by simp [AV.flat]) (by simp) ?_)
    simp -implicitDefEqProofs [e]
  · simp -implicitDefEqProofs [rc_size_unit_exact, rr_size_unit_exact, unitCs]
    (first | refine CallK.flat (containsI_pc 83 [.vptr [.int .i64 254, .int .i64 4, .str nameIn, .func (.func 143) [] []] 0] (fun n => !decide (n % 254 = 0)) l (by simp [AV.pure]) hl (fun n hn => exactC_pc n 254 _ _ _ (h0 n hn) (by omega))) (by simp [AV.flat]) (by simp) ?_ | refine CallD.flat (containsI_pc 83 [.vptr [.int .i64 254, .int .i64 4, .str nameIn, .func (.func 143) [] []] 0] (fun n => !decide (n % 254 = 0)) l (by simp [AV.pure]) hl (fun n hn => exactC_pc n 254 _ _ _ (h0 n hn) (by omega))) (by simp [AV.flat]) (by simp) ?_)
    simp -implicitDefEqProofs [e]

theorem of_pc (hU : G 0 = some unitsT) (k : Int) (h0 : 0 ≤ k) (h1 : k ≤ 255) :
    PC Tryd.prog G 52 [.int .u8 k] (.tup [.agg (unitCs k), .int .i64 (if stp k = 0 then 11 else 0)]) := by
  (refine pc_size_of (Nat.le_of_ble_eq_true rfl) fun R hG => GO_AR mixed 1000 ?_; subst hG)
  have w1 : IntKind.i64.wrap k = k := wrapI (by omega) (by omega)
  simp -implicitDefEqProofs [rc_size_of, rr_size_of, w1]
  (first | refine CallK.of (inS_pc 1 2 [k] (by simp)) (by simp) ?_ | refine CallD.of (inS_pc 1 2 [k] (by simp)) (by simp) ?_)
  by_cases h2 : k = 1
  · subst h2
    simp -implicitDefEqProofs [hU, inR, unitCs, stp, unitsT]
  · by_cases h3 : k = 2
    · subst h3
      simp -implicitDefEqProofs [hU, inR, unitCs, stp, unitsT]
    · have h4 : ([k].all fun n => inR n 1 2) = false := by
        simp [inR]; omega
      rw [h4]
      simp -implicitDefEqProofs [h2, h3, unitCs, stp]

theorem RoomS_pc (h : Dm) (lo hi : Int) :
    PC Tryd.prog G 26 [.agg [.int .i64 h.n, .int .i64 h.l, .int .i64 h.u], .agg [.int .i64 lo, .int .i64 hi]]
      (.tup [.agg [.int .i64 (roomV h lo hi).1.n, .int .i64 (roomV h lo hi).1.l, .int .i64 (roomV h lo hi).1.u], .int .i64 (roomV h lo hi).2]) := by
  (refine pc_size_Room (Nat.le_of_ble_eq_true rfl) fun R hG => GO_AR mixed 1000 ?_; subst hG)
  simp -implicitDefEqProofs [rc_size_Room, rr_size_Room]
  (first | refine CallK.of (checkS_pc h) (by simp) ?_ | refine CallD.of (checkS_pc h) (by simp) ?_)
  cases h1 : vd h
  · simp -implicitDefEqProofs [h1, chk, roomV, Dm.zero]
  · simp -implicitDefEqProofs [h1, chk]
    (first | refine CallK.of (wantedS_pc lo hi) (by simp) ?_ | refine CallD.of (wantedS_pc lo hi) (by simp) ?_)
    cases h2 : wantedB lo hi
    · simp -implicitDefEqProofs [h1, h2, roomV, Dm.zero]
    · obtain ⟨x0, x1, x2, x3, x4⟩ := of_decide_eq_true h1
      obtain ⟨y0, y1, y2, y3, y4⟩ := of_decide_eq_true h2
      have e1 : IntKind.i64.wrap (h.u - hi) = h.u - hi := wrapI (by omega) (by omega)
      have e2 : IntKind.i64.wrap (h.l - lo) = h.l - lo := wrapI (by omega) (by omega)
      generalize hd : roomD h lo hi = d
      have d1 : max 0 (h.u - hi) = d.l := by rw [← hd]; rfl
      have d2 : min 1000000000 (h.l - lo) = d.u := by rw [← hd]; rfl
      have d3 : h.n = d.n := by rw [← hd]; rfl
      by_cases h3 : d.u < d.l
      · have h4 : ¬ d.l ≤ d.u := by omega
        simp -implicitDefEqProofs [h1, h2, e1, e2, d1, d2, h3, h4, roomV, hd, Dm.zero]
      · have h4 : d.l ≤ d.u := by omega
        simp -implicitDefEqProofs [h1, h2, e1, e2, d1, d2, d3, h3, h4, roomV, hd, Dm.zero]

def kcs (x : Bool × Int) : List AV := [.bool x.1, .int .u8 x.2]

theorem fitC_pc (x : Bool × Int) : PC Tryd.prog G 57 [.agg (kcs x)] (.bool x.1) := by
  (refine pc_size_Fit_1 (Nat.le_of_ble_eq_true rfl) fun R hG => GO_AR mixed 1000 ?_; subst hG)
  simp -implicitDefEqProofs [rc_size_Fit_1, rr_size_Fit_1, kcs]

theorem indexK_pc (l : List (Bool × Int)) (hl : l.length < 1000000) :
    PC Tryd.prog G 82 [.vsl (l.map kcs), .func (.func 57) [] []] (.int .i64 (fstOf Prod.fst l)) := by
  (refine pc_slices_IndexFunc_struct_is_bool_kind_uint8_struct_is_bool_kind_uint8 (Nat.le_of_ble_eq_true rfl) fun R hG => GO_AR mixed 1000 ?_; subst hG)
  simp -implicitDefEqProofs [rc_slices_IndexFunc_struct_is_bool_kind_uint8_struct_is_bool_kind_uint8, rr_slices_IndexFunc_struct_is_bool_kind_uint8_struct_is_bool_kind_uint8]
  refine AR_loop (fun i : Nat => ⟨[(8, .int .i64 i), (7, .int .i64 l.length), (0, .vsl (l.map kcs)), (1, .func (.func 57) [] [])], []⟩) (fun i => i ≤ l.length ∧ ∀ x ∈ l.take i, x.1 = false) (fun i => l.length - i) 0 (Weak.tm (by simp [lk])) ⟨by omega, by simp⟩ ?_
  rintro i ⟨hi, he⟩
  refine GO_AR mixed 1000 ?_
  by_cases h2 : i < l.length
  · have w1 : IntKind.i64.wrap ((i : Int) + 1) = ((i + 1 : Nat) : Int) := wrapI (by omega) (by omega)
    simp -implicitDefEqProofs [h2, kcs]
    refine CallK.of (fitC_pc l[i]) (by simp) ?_
    cases h3 : l[i].1
    · simp -implicitDefEqProofs [w1]
      exact ⟨i + 1, Weak.tm (by simp [lk]), ⟨by omega, by simpa using take_hit h2 h3 he⟩, by show l.length - (i + 1) < l.length - i; omega⟩
    · have e := fstOf_hit h2 h3 he
      simp -implicitDefEqProofs
      refine GO_ret mixed 1000 ?_
      simp -implicitDefEqProofs [e]
  · have e := fstOf_none (p := Prod.fst) (l := l) (by rw [List.take_of_length_le (by omega)] at he; exact he)
    simp -implicitDefEqProofs [h2]
    refine GO_ret mixed 1000 ?_
    simp -implicitDefEqProofs [e]

theorem first_pc (l : List (Bool × Int)) (i : Nat) (h : i < l.length) (hl : l.length < 1000000) (hf : fstOf Prod.fst l = i) :
    PC Tryd.prog G 56 [.vsl (l.map kcs), .func (.func 57) [] []] (.agg (kcs l[i])) := by
  (refine pc_size_first_struct_is_bool_kind_uint8 (Nat.le_of_ble_eq_true rfl) fun R hG => GO_AR mixed 1000 ?_; subst hG)
  simp -implicitDefEqProofs [rc_size_first_struct_is_bool_kind_uint8, rr_size_first_struct_is_bool_kind_uint8]
  (first | refine CallK.of (indexK_pc l hl) (by simp) ?_ | refine CallD.of (indexK_pc l hl) (by simp) ?_)
  simp -implicitDefEqProofs [hf, h, kcs]

theorem fitS_pc (a b : Dm) : PC Tryd.prog G 24 [.agg [.int .i64 a.n, .int .i64 a.l, .int .i64 a.u], .agg [.int .i64 b.n, .int .i64 b.l, .int .i64 b.u]]
    (.tup [.agg [.int .i64 (fitV a b).1, .int .i64 (fitV a b).2.1], .int .u8 (fitV a b).2.2.1, .int .i64 (fitV a b).2.2.2]) := by
  (refine pc_size_Fit (Nat.le_of_ble_eq_true rfl) fun R hG => GO_AR mixed 1000 ?_; subst hG)
  simp -implicitDefEqProofs [rc_size_Fit, rr_size_Fit]
  (first | refine CallK.of (bothS_pc a b) (by simp) ?_ | refine CallD.of (bothS_pc a b) (by simp) ?_)
  by_cases h1 : vd a = true ∧ vd b = true
  · obtain ⟨x0, x1, x2, x3, x4⟩ := of_decide_eq_true h1.1
    obtain ⟨y0, y1, y2, y3, y4⟩ := of_decide_eq_true h1.2
    have e1 : IntKind.i64.wrap (a.l - b.u) = a.l - b.u := wrapI (by omega) (by omega)
    have e2 : IntKind.i64.wrap (a.u - b.l) = a.u - b.l := wrapI (by omega) (by omega)
    by_cases h3 : b.u ≤ a.l
    · simp -implicitDefEqProofs [h1, e1, e2, h3]
      generalize decide (a.u - b.l ≤ 0) = q
      (first | refine CallK.of (first_pc [(true, 1), (q, 2), (true, 3)] 0 (by simp) (by simp) (fstOf_hit (by simp) rfl (by simp))) (by simp) ?_ | refine CallD.of (first_pc [(true, 1), (q, 2), (true, 3)] 0 (by simp) (by simp) (fstOf_hit (by simp) rfl (by simp))) (by simp) ?_)
      simp -implicitDefEqProofs [kcs, fitV, h1, h3]
      rfl
    · by_cases h4 : a.u - b.l ≤ 0
      · simp -implicitDefEqProofs [h1, e1, e2, h3, h4]
        (first | refine CallK.of (first_pc [(false, 1), (true, 2), (true, 3)] 1 (by simp) (by simp) (fstOf_hit (by simp) rfl (by simp))) (by simp) ?_ | refine CallD.of (first_pc [(false, 1), (true, 2), (true, 3)] 1 (by simp) (by simp) (fstOf_hit (by simp) rfl (by simp))) (by simp) ?_)
        simp -implicitDefEqProofs [kcs, fitV, h1, h3, h4]
        rfl
      · simp -implicitDefEqProofs [h1, e1, e2, h3, h4]
        (first | refine CallK.of (first_pc [(false, 1), (false, 2), (true, 3)] 2 (by simp) (by simp) (fstOf_hit (by simp) rfl (by simp))) (by simp) ?_ | refine CallD.of (first_pc [(false, 1), (false, 2), (true, 3)] 2 (by simp) (by simp) (fstOf_hit (by simp) rfl (by simp))) (by simp) ?_)
        simp -implicitDefEqProofs [kcs, fitV, h1, h3, h4]
        rfl
  · have e : fitV a b = (0, 0, 0, 10) := by simp only [fitV, h1, if_false]
    simp -implicitDefEqProofs [h1, e]
end
end Go.Proofs.YtikjooemblpnbaaDoor
