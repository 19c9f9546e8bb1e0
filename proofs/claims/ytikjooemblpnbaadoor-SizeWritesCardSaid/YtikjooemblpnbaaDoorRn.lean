/-
  The law SizeWrites, with bluelineref01's Write and Read as contracts.
-/
import Derived.Test.YtikjooemblpnbaaDoorRl
import Derived.Test.YtikjooemblpnbaaDoorRcE
import Derived.Test.YtikjooemblpnbaaDoorRc
import Derived.Test.YtikjooemblpnbaaDoorRcF
import Derived.Test.YtikjooemblpnbaaDoorRm
/-! bluelineref01: digits, number, signed, written, Write as contracts. -/
namespace Go.Proofs.YtikjooemblpnbaaDoor
open Go.RowKit

def tenS : ByteArray := ⟨#[48, 49, 50, 51, 52, 53, 54, 55, 56, 57]⟩
theorem ten_at (q : Nat) (h : q < 10) : tenS.extract q (q + 1) = ⟨#[UInt8.ofNat (48 + q)]⟩ := by
  match q, h with
  | 0, _ => decide
  | 1, _ => decide
  | 2, _ => decide
  | 3, _ => decide
  | 4, _ => decide
  | 5, _ => decide
  | 6, _ => decide
  | 7, _ => decide
  | 8, _ => decide
  | 9, _ => decide
def dSt (least : Nat) (p : List UInt8 × Nat) : St := ⟨[(5, .str ⟨p.1.toArray⟩), (0, .int .i64 p.2), (1, .int .i64 least)], []⟩
theorem one_app (b : UInt8) (l : List UInt8) : (⟨#[b]⟩ : ByteArray) ++ ⟨l.toArray⟩ = ⟨(b :: l).toArray⟩ := ba_ext (by simp [ByteArray.data_append])
theorem ba_size (l : List UInt8) : (⟨l.toArray⟩ : ByteArray).size = l.length := by show l.toArray.size = _; simp

section
variable {G : Nat → Option (List AV)}

theorem digitsR_pc (n least : Nat) (hn : n ≤ 10000000000) (hl : least ≤ 100) : PC Tryd.prog G 96 [.int .i64 n, .int .i64 least] (.str ⟨(dU least n).toArray⟩) := by
  (refine pc_ref01_digits (Nat.le_of_ble_eq_true rfl) fun R hG => GO_AR mixed 1000 ?_; subst hG)
  simp -implicitDefEqProofs [rc_ref01_digits, rr_ref01_digits]
  refine AR_loop (dSt least) (fun p => p.1.length + p.2 ≤ n + least ∧ dU (least - p.1.length) p.2 ++ p.1 = dU least n) (fun p => p.2 + (least - p.1.length)) ([], n) (Weak.sub (by simp [lk, keptA, AV.keys]) (by simp)) ⟨by simp, by simp⟩ ?_
  rintro ⟨b, m⟩ ⟨h1, h2⟩
  simp only at h1 h2
  refine GO_AR mixed 1000 ?_
  have hz := ba_size b
  obtain ⟨q, hq⟩ : ∃ q : Nat, q = m % 10 := ⟨_, rfl⟩
  obtain ⟨m1, hm1⟩ : ∃ m1 : Nat, m1 = m / 10 := ⟨_, rfl⟩
  have w1 : IntKind.i64.wrap ((q : Int) + 1) = (q : Int) + 1 := wrapI (by omega) (by omega)
  have w2 : (m : Int).tmod 10 = (q : Int) := by rw [Int.tmod_eq_emod_of_nonneg (by omega)]; omega
  have w3 : IntKind.i64.wrap ((m : Int).tdiv 10) = (m1 : Int) := by rw [Int.tdiv_eq_ediv_of_nonneg (by omega), wrapI (by omega) (by omega)]; omega
  have w3' : IntKind.i64.wrap ((m : Int) / 10) = (m1 : Int) := by rw [wrapI (by omega) (by omega)]; omega
  have w5 : ((q : Int) + 1).toNat = q + 1 := by omega
  have w6 : (0 : Int) ≤ (q : Int) + 1 := by omega
  have w7 : (⟨#[48, 49, 50, 51, 52, 53, 54, 55, 56, 57]⟩ : ByteArray).size = 10 := rfl
  have w8 : q + 1 ≤ 10 := by omega
  obtain ⟨c, hc⟩ : ∃ c : UInt8, c = UInt8.ofNat (48 + q) := ⟨_, rfl⟩
  have hx : (⟨#[48, 49, 50, 51, 52, 53, 54, 55, 56, 57]⟩ : ByteArray).extract q (q + 1) = ⟨#[c]⟩ := by rw [hc]; exact ten_at q (by omega)
  have hy := one_app (c) b
  have h9 : (⟨#[c]⟩ : ByteArray).size + b.length ≤ 9223372036854775807 := by
    have : (⟨#[c]⟩ : ByteArray).size = 1 := rfl
    omega
  have go : 0 < m ∨ b.length < least → ((c :: b).length + m1 ≤ n + least ∧ dU (least - (c :: b).length) m1 ++ (c :: b) = dU least n) ∧ m1 + (least - (c :: b).length) < m + (least - b.length) := fun hor => by
    refine ⟨⟨by simp only [List.length_cons]; omega, ?_⟩, by simp only [List.length_cons]; omega⟩
    rw [← h2, dU_step (least - b.length) m (by omega), ← hq, ← hm1, ← hc]
    simp [Nat.sub_sub]
  clear hq hm1 hc
  by_cases hm : 0 < m
  · simp -implicitDefEqProofs [dSt, hm, hz, w1, w2, w3, w3', w5, w6, w7, w8, hx, hy, h9]
    exact ⟨(c :: b, m1), Weak.sub (by simp [dSt, lk, keptA, AV.keys]) (by simp), (go (.inl hm)).1, (go (.inl hm)).2⟩
  · by_cases hb : b.length < least
    · simp -implicitDefEqProofs [dSt, hm, hb, hz, w1, w2, w3, w3', w5, w6, w7, w8, hx, hy, h9]
      exact ⟨(c :: b, m1), Weak.sub (by simp [dSt, lk, keptA, AV.keys]) (by simp), (go (.inr hb)).1, (go (.inr hb)).2⟩
    · have e : b = dU least n := by
        rw [← h2, show m = 0 by omega, show least - b.length = 0 by omega, dU_zero, List.nil_append]
      simp -implicitDefEqProofs [dSt, hm, hb, hz]
      refine GO_ret mixed 1000 ?_
      simp -implicitDefEqProofs [e]

theorem dgU_size (least n : Nat) : (⟨(dU least n).toArray⟩ : ByteArray).size = (dU least n).length := ba_size _

theorem numberR_pc (n bh : Nat) (hn : n ≤ 10000000000) (hb : bh ≤ 90) : PC Tryd.prog G 88 [.int .i64 n, .int .i64 bh] (.str (wnS bh n)) := by
  have hD := digitsR_pc (G := G) n (bh + 1) hn (by omega)
  obtain ⟨f1, f2, f3, f4, f5⟩ := dU_facts (bh + 1) n
  have f6 := f5 (n + bh + 1) (by omega) (Nat.lt_of_lt_of_le (Nat.lt_pow_self (by omega)) (Nat.pow_le_pow_right (by omega) (by omega)))
  have hw := wnS_data bh n
  generalize dU (bh + 1) n = D at *
  have hz := ba_size D
  obtain ⟨S, hS⟩ : ∃ S : ByteArray, S = ⟨D.toArray⟩ := ⟨_, rfl⟩
  rw [← hS] at hD hz
  have e1 : wnS bh n = S.extract 0 (D.length - bh) ++ ⟨#[46]⟩ ++ S.extract (D.length - bh) D.length := by
    refine ba_ext ?_
    rw [hw, hS]
    simp only [ByteArray.data_append, Array.toList_append, Lib.extract_data]
    simp only [List.drop_zero, Nat.sub_zero, List.append_assoc, List.singleton_append]
    congr 2
    rw [List.take_of_length_le]
    simp
  have w0 : IntKind.i64.wrap ((bh : Int) + 1) = (bh : Int) + 1 := wrapI (by omega) (by omega)
  obtain ⟨q, hq⟩ : ∃ q : Nat, q = D.length - bh := ⟨_, rfl⟩
  have w1 : IntKind.i64.wrap ((D.length : Int) - bh) = (q : Int) := by rw [wrapI (by omega) (by omega)]; omega
  have w2 : q ≤ D.length := by omega
  have s1 : (S.extract 0 q).size = q := by rw [ByteArray.size_extract, hz]; omega
  have s2 : (S.extract q D.length).size = D.length - q := by rw [ByteArray.size_extract, hz]; omega
  have s3 : (⟨#[46]⟩ : ByteArray).size = 1 := rfl
  have s4 : (S.extract 0 q).size + (⟨#[46]⟩ : ByteArray).size ≤ 9223372036854775807 := by rw [s1, s3]; omega
  have s5 : (S.extract 0 q ++ ⟨#[46]⟩).size + (S.extract q D.length).size ≤ 9223372036854775807 := by rw [ByteArray.size_append, s1, s2, s3]; omega
  have s6 : (S.extract 0 q).size + (⟨#[46]⟩ : ByteArray).size + (S.extract q D.length).size ≤ 9223372036854775807 := by rw [s1, s2, s3]; omega
  have s7 : q + (⟨#[46]⟩ : ByteArray).size ≤ 9223372036854775807 := by rw [s3]; omega
  have s8 : q + (⟨#[46]⟩ : ByteArray).size + (D.length - q) ≤ 9223372036854775807 := by rw [s3]; omega
  rw [e1, ← hq]
  have hD' : PC Tryd.prog G 96 [.int .i64 n, .int .i64 ((bh : Int) + 1)] (.str S) := hD
  (refine pc_ref01_number (Nat.le_of_ble_eq_true rfl) fun R hG => GO_AR mixed 1000 ?_; subst hG)
  simp -implicitDefEqProofs [rc_ref01_number, rr_ref01_number, w0]
  (first | refine CallK.of (hD') (by simp) ?_ | refine CallD.of (hD') (by simp) ?_)
  simp -implicitDefEqProofs [hz, w1, w2, s7, s8]
  rfl

theorem wnS_le' (bh n : Nat) : (wnS bh n).size ≤ bh + n + 3 := by
  obtain ⟨f1, f2, f3, f4, f5⟩ := dU_facts (bh + 1) n
  have f6 := f5 (n + bh + 1) (by omega) (Nat.lt_of_lt_of_le (Nat.lt_pow_self (by omega)) (Nat.pow_le_pow_right (by omega) (by omega)))
  have e : (wnS bh n).size = (wnS bh n).data.toList.length := rfl
  rw [e, wnS_data, List.length_append, List.length_cons, List.length_take, List.length_drop]
  omega

theorem signedR_pc (z : Int) (bh : Nat) (h0 : -10000000000 ≤ z) (h1 : z ≤ 10000000000) (hb : bh ≤ 90) : PC Tryd.prog G 89 [.int .i64 z, .int .i64 bh] (.str (sgS bh z)) := by
  (refine pc_ref01_signed (Nat.le_of_ble_eq_true rfl) fun R hG => GO_AR mixed 1000 ?_; subst hG)
  by_cases c : z < 0
  · obtain ⟨m, hm⟩ : ∃ m : Nat, m = (-z).toNat := ⟨_, rfl⟩
    have w : IntKind.i64.wrap (-z) = (m : Int) := by rw [wrapI (by omega) (by omega)]; omega
    have e : sgS bh z = ⟨#[45]⟩ ++ wnS bh m := by unfold sgS; rw [if_pos c, hm]
    have hl := wnS_le' bh m
    have s3 : (⟨#[45]⟩ : ByteArray).size = 1 := rfl
    have s4 : (⟨#[45]⟩ : ByteArray).size + (wnS bh m).size ≤ 9223372036854775807 := by rw [s3]; omega
    simp -implicitDefEqProofs [rc_ref01_signed, rr_ref01_signed, c, w]
    (first | refine CallK.of (numberR_pc m bh (by omega) hb) (by simp) ?_ | refine CallD.of (numberR_pc m bh (by omega) hb) (by simp) ?_)
    simp -implicitDefEqProofs [s4, e]
  · obtain ⟨m, rfl⟩ : ∃ m : Nat, z = (m : Int) := ⟨z.toNat, by omega⟩
    have e : sgS bh (m : Int) = ⟨#[43]⟩ ++ wnS bh m := by unfold sgS; rw [if_neg c]; rfl
    have hl := wnS_le' bh m
    have s3 : (⟨#[43]⟩ : ByteArray).size = 1 := rfl
    have s4 : (⟨#[43]⟩ : ByteArray).size + (wnS bh m).size ≤ 9223372036854775807 := by rw [s3]; omega
    simp -implicitDefEqProofs [rc_ref01_signed, rr_ref01_signed, c]
    (first | refine CallK.of (numberR_pc m bh (by omega) hb) (by simp) ?_ | refine CallD.of (numberR_pc m bh (by omega) hb) (by simp) ?_)
    simp -implicitDefEqProofs [s4, e]

theorem sgS_le' (bh : Nat) (z : Int) : (sgS bh z).size ≤ bh + z.natAbs + 4 := by
  have e : (sgS bh z).size = (sgS bh z).data.toList.length := rfl
  rw [e, sgS_data, List.length_cons]
  have := wnS_le' bh (if z < 0 then (-z).toNat else z.toNat)
  have e : (wnS bh (if z < 0 then (-z).toNat else z.toNat)).size = (wnS bh (if z < 0 then (-z).toNat else z.toNat)).data.toList.length := rfl
  have : (if z < 0 then (-z).toNat else z.toNat) ≤ z.natAbs := by split <;> omega
  omega

set_option maxRecDepth 8000 in
theorem writtenR_pc (d : Dm) (k : Int) (hk : k = 1 ∨ k = 2) (hv : vd d = true) : PC Tryd.prog G 66 [.agg [.int .i64 d.n, .int .i64 d.l, .int .i64 d.u], .int .u8 k] (.str (wrV d k)) := by
  obtain ⟨x0, x1, x2, x3, x4⟩ := of_decide_eq_true hv
  have tb : ∀ (s : Int), (s = 100 ∨ s = 254) → ∀ x : Int, -1000000000 ≤ x → x ≤ 1000000000 → -1000000000 ≤ x.tdiv s ∧ x.tdiv s ≤ 1000000000 := fun s hs x y0 y1 => by
    rcases Int.le_total 0 x with c | c
    · rw [Int.tdiv_eq_ediv_of_nonneg c]; rcases hs with rfl | rfl <;> omega
    · have e : x.tdiv s = -((-x).tdiv s) := by rw [Int.neg_tdiv, Int.neg_neg]
      rw [e, Int.tdiv_eq_ediv_of_nonneg (show 0 ≤ -x by omega)]; rcases hs with rfl | rfl <;> omega
  have w1 : IntKind.i64.wrap (d.l - d.n) = d.l - d.n := wrapI (by omega) (by omega)
  have w2 : IntKind.i64.wrap (d.u - d.n) = d.u - d.n := wrapI (by omega) (by omega)
  rcases hk with rfl | rfl
  · have hl := tb 100 (.inl rfl) (d.l - d.n) (by omega) (by omega)
    have hu := tb 100 (.inl rfl) (d.u - d.n) (by omega) (by omega)
    obtain ⟨n, hn⟩ : ∃ n : Nat, n = (d.n / 100).toNat := ⟨_, rfl⟩
    have wn : IntKind.i64.wrap (d.n.tdiv 100) = (n : Int) := by rw [Int.tdiv_eq_ediv_of_nonneg x0, wrapI (by omega) (by omega)]; omega
    have e0 : wrV d 1 = wnS 3 n ++ ⟨#[32]⟩ ++ sgS 3 ((d.l - d.n).tdiv 100) ++ ⟨#[32]⟩ ++ sgS 3 ((d.u - d.n).tdiv 100) ++ ⟨#[32, 109, 109]⟩ := by
      refine ba_ext ?_
      rw [wrV, jn_data, hn]
      simp [ByteArray.data_append, bhV, stp, nmV, nameMm]
    have s1 := wnS_le' 3 n
    have s2 := sgS_le' 3 ((d.l - d.n).tdiv 100)
    have s3 := sgS_le' 3 ((d.u - d.n).tdiv 100)
    rw [e0]
    clear e0
    generalize ga : (d.l - d.n).tdiv 100 = a at *
    generalize gb : (d.u - d.n).tdiv 100 = b at *
    have wl : IntKind.i64.wrap ((d.l - d.n).tdiv 100) = a := by rw [ga]; exact wrapI (by omega) (by omega)
    have wu : IntKind.i64.wrap ((d.u - d.n).tdiv 100) = b := by rw [gb]; exact wrapI (by omega) (by omega)
    have hA := numberR_pc (G := G) n 3 (by omega) (by omega)
    have hB := signedR_pc (G := G) a 3 (by omega) (by omega) (by omega)
    have hC := signedR_pc (G := G) b 3 (by omega) (by omega) (by omega)
    generalize wnS 3 n = A at *
    generalize sgS 3 a = B at *
    generalize sgS 3 b = C at *
    have q1 : (⟨#[32]⟩ : ByteArray).size = 1 := rfl
    have q2 : (⟨#[32, 109, 109]⟩ : ByteArray).size = 3 := rfl
    have p1 : A.size + 1 ≤ 9223372036854775807 := by omega
    have p2 : A.size + 1 + B.size ≤ 9223372036854775807 := by omega
    have p3 : A.size + 1 + B.size + 1 ≤ 9223372036854775807 := by omega
    have p4 : A.size + 1 + B.size + 1 + C.size ≤ 9223372036854775807 := by omega
    have p5 : A.size + 1 + B.size + 1 + C.size + 3 ≤ 9223372036854775807 := by omega
    (refine pc_ref01_written (Nat.le_of_ble_eq_true rfl) fun R hG => GO_AR mixed 1000 ?_; subst hG)
    simp -implicitDefEqProofs [rc_ref01_written, rr_ref01_written]
    (first | refine CallK.of (step_pc 1) (by simp) ?_ | refine CallD.of (step_pc 1) (by simp) ?_)
    simp -implicitDefEqProofs [stp, wn, wl, wu, w1, w2]
    (first | refine CallK.of (hA) (by simp) ?_ | refine CallD.of (hA) (by simp) ?_)
    simp -implicitDefEqProofs [q1, q2, p1, p2, p3, p4, p5, stp, wn, wl, wu, w1, w2]
    (first | refine CallK.of (hB) (by simp) ?_ | refine CallD.of (hB) (by simp) ?_)
    simp -implicitDefEqProofs [q1, q2, p1, p2, p3, p4, p5, stp, wn, wl, wu, w1, w2]
    (first | refine CallK.of (hC) (by simp) ?_ | refine CallD.of (hC) (by simp) ?_)
    simp -implicitDefEqProofs [q1, q2, p1, p2, p3, p4, p5, stp, wn, wl, wu, w1, w2]
    rfl
  · have hl := tb 254 (.inr rfl) (d.l - d.n) (by omega) (by omega)
    have hu := tb 254 (.inr rfl) (d.u - d.n) (by omega) (by omega)
    obtain ⟨n, hn⟩ : ∃ n : Nat, n = (d.n / 254).toNat := ⟨_, rfl⟩
    have wn : IntKind.i64.wrap (d.n.tdiv 254) = (n : Int) := by rw [Int.tdiv_eq_ediv_of_nonneg x0, wrapI (by omega) (by omega)]; omega
    have e0 : wrV d 2 = wnS 4 n ++ ⟨#[32]⟩ ++ sgS 4 ((d.l - d.n).tdiv 254) ++ ⟨#[32]⟩ ++ sgS 4 ((d.u - d.n).tdiv 254) ++ ⟨#[32, 105, 110]⟩ := by
      refine ba_ext ?_
      rw [wrV, jn_data, hn]
      simp [ByteArray.data_append, bhV, stp, nmV, nameIn]
    have s1 := wnS_le' 4 n
    have s2 := sgS_le' 4 ((d.l - d.n).tdiv 254)
    have s3 := sgS_le' 4 ((d.u - d.n).tdiv 254)
    rw [e0]
    clear e0
    generalize ga : (d.l - d.n).tdiv 254 = a at *
    generalize gb : (d.u - d.n).tdiv 254 = b at *
    have wl : IntKind.i64.wrap ((d.l - d.n).tdiv 254) = a := by rw [ga]; exact wrapI (by omega) (by omega)
    have wu : IntKind.i64.wrap ((d.u - d.n).tdiv 254) = b := by rw [gb]; exact wrapI (by omega) (by omega)
    have hA := numberR_pc (G := G) n 4 (by omega) (by omega)
    have hB := signedR_pc (G := G) a 4 (by omega) (by omega) (by omega)
    have hC := signedR_pc (G := G) b 4 (by omega) (by omega) (by omega)
    generalize wnS 4 n = A at *
    generalize sgS 4 a = B at *
    generalize sgS 4 b = C at *
    have q1 : (⟨#[32]⟩ : ByteArray).size = 1 := rfl
    have q2 : (⟨#[32, 105, 110]⟩ : ByteArray).size = 3 := rfl
    have p1 : A.size + 1 ≤ 9223372036854775807 := by omega
    have p2 : A.size + 1 + B.size ≤ 9223372036854775807 := by omega
    have p3 : A.size + 1 + B.size + 1 ≤ 9223372036854775807 := by omega
    have p4 : A.size + 1 + B.size + 1 + C.size ≤ 9223372036854775807 := by omega
    have p5 : A.size + 1 + B.size + 1 + C.size + 3 ≤ 9223372036854775807 := by omega
    (refine pc_ref01_written (Nat.le_of_ble_eq_true rfl) fun R hG => GO_AR mixed 1000 ?_; subst hG)
    simp -implicitDefEqProofs [rc_ref01_written, rr_ref01_written]
    (first | refine CallK.of (step_pc 2) (by simp) ?_ | refine CallD.of (step_pc 2) (by simp) ?_)
    simp -implicitDefEqProofs [stp, wn, wl, wu, w1, w2]
    (first | refine CallK.of (hA) (by simp) ?_ | refine CallD.of (hA) (by simp) ?_)
    simp -implicitDefEqProofs [q1, q2, p1, p2, p3, p4, p5, stp, wn, wl, wu, w1, w2]
    (first | refine CallK.of (hB) (by simp) ?_ | refine CallD.of (hB) (by simp) ?_)
    simp -implicitDefEqProofs [q1, q2, p1, p2, p3, p4, p5, stp, wn, wl, wu, w1, w2]
    (first | refine CallK.of (hC) (by simp) ?_ | refine CallD.of (hC) (by simp) ?_)
    simp -implicitDefEqProofs [q1, q2, p1, p2, p3, p4, p5, stp, wn, wl, wu, w1, w2]
    rfl

theorem writeR_pc (d : Dm) (k : Int) : PC Tryd.prog G 36 [.agg [.int .i64 d.n, .int .i64 d.l, .int .i64 d.u], .int .u8 k] (.tup [.str (writeV d k).1, .int .i64 (writeV d k).2]) := by
  (refine pc_ref01_Write (Nat.le_of_ble_eq_true rfl) fun R hG => GO_AR mixed 1000 ?_; subst hG)
  simp -implicitDefEqProofs [rc_ref01_Write, rr_ref01_Write]
  (first | refine CallK.of (dim_pc d.n d.l d.u) (by simp) ?_ | refine CallD.of (dim_pc d.n d.l d.u) (by simp) ?_)
  cases h1 : vd d
  · have h1' : vd ⟨d.n, d.l, d.u⟩ = false := h1
    simp -implicitDefEqProofs [h1', h1, writeV]
  have h1' : vd ⟨d.n, d.l, d.u⟩ = true := h1
  obtain ⟨x0, x1, x2, x3, x4⟩ := of_decide_eq_true h1
  simp -implicitDefEqProofs [h1']
  (first | refine CallK.of (step_pc k) (by simp) ?_ | refine CallD.of (step_pc k) (by simp) ?_)
  by_cases h2 : stp k = 0
  · simp -implicitDefEqProofs [h1, h2, writeV]
  have hk : k = 1 ∨ k = 2 := by
    unfold stp at h2
    by_cases e1 : k = 1
    · exact .inl e1
    · by_cases e2 : k = 2
      · exact .inr e2
      · simp [e1, e2] at h2
  have hs : stp k = 100 ∨ stp k = 254 := by rcases hk with rfl | rfl <;> simp [stp]
  simp -implicitDefEqProofs [h2]
  (first | refine CallK.of (step_pc k) (by simp) ?_ | refine CallD.of (step_pc k) (by simp) ?_)
  simp -implicitDefEqProofs [h2]
  (first | refine CallK.of (exact_pc d (stp k) x0 x2 (by omega) (by omega) (by omega)) (by simp) ?_ | refine CallD.of (exact_pc d (stp k) x0 x2 (by omega) (by omega) (by omega)) (by simp) ?_)
  cases h3 : exa d (stp k)
  · simp -implicitDefEqProofs [h1, h2, h3, writeV]
    rfl
  · simp -implicitDefEqProofs [h3]
    refine ⟨rfl, ?_⟩
    (first | refine CallK.of (writtenR_pc d k hk h1) (by simp) ?_ | refine CallD.of (writtenR_pc d k hk h1) (by simp) ?_)
    simp -implicitDefEqProofs [h1, h2, h3, writeV]
end
end Go.Proofs.YtikjooemblpnbaaDoor

/-! bluelineref01: value, words, Read as contracts. -/
namespace Go.Proofs.YtikjooemblpnbaaDoor
open Go.RowKit

/-- The number of the digits of a text. -/
def valF (l : List UInt8) : Int := l.foldl (fun n b => if digB b = true ∧ n < 1000000000 then 10 * n + ((b.toNat : Int) - 48) else n) 0
theorem valF_snoc (l : List UInt8) (b : UInt8) : valF (l ++ [b]) = if digB b = true ∧ valF l < 1000000000 then 10 * valF l + ((b.toNat : Int) - 48) else valF l := by rw [valF, List.foldl_append]; rfl
theorem valF_bd : ∀ (k : Nat) (l : List UInt8), l.length = k → 0 ≤ valF l ∧ valF l < 10000000000 := by
  intro k
  induction k with
  | zero => intro l hl; rw [List.length_eq_zero_iff.1 hl]; simp [valF]
  | succ k ih =>
    intro l hl
    have hne : l ≠ [] := by rintro rfl; simp at hl
    obtain ⟨l', b, rfl⟩ : ∃ l' b, l = l' ++ [b] := ⟨_, _, (List.dropLast_concat_getLast hne).symm⟩
    have := ih l' (by simpa using hl)
    rw [valF_snoc]
    split
    · rename_i h
      have := of_decide_eq_true h.1
      omega
    · exact this
def valR (s : ByteArray) : Int := if s.data.toList.head? = some 45 then -valF s.data.toList else valF s.data.toList

theorem ba_at {s : ByteArray} {i : Nat} (h : i < s.size) : s.data.toList[i]'h = s[i] := by rw [ByteArray.getElem_eq_getElem_data]; simp

section
variable {G : Nat → Option (List AV)}

theorem valueR_pc (s : ByteArray) (hs : s.size < 4294967281) : PC Tryd.prog G 73 [.str s] (.int .i64 (valR s)) := by
  (refine pc_ref01_value (Nat.le_of_ble_eq_true rfl) fun R hG => GO_AR mixed 1000 ?_; subst hG)
  simp -implicitDefEqProofs [rc_ref01_value, rr_ref01_value]
  refine AR_loop (fun i : Nat => ⟨[(4, .int .i64 i), (3, .int .i64 (valF (s.data.toList.take i))), (2, .int .i64 0), (0, .str s)], []⟩) (fun i => i ≤ s.size) (fun i => s.size - i) 0 (Weak.sub (by simp [lk, keptA, AV.keys, valF]) (by simp)) (Nat.zero_le _) ?_
  intro i hi
  refine GO_AR mixed 1000 ?_
  by_cases hc : i < s.size
  · have htk : s.data.toList.take (i + 1) = s.data.toList.take i ++ [s[i]] := by rw [List.take_succ_eq_append_getElem (by exact hc), ba_at hc]
    have hsn : valF (s.data.toList.take (i + 1)) = if digB s[i] = true ∧ valF (s.data.toList.take i) < 1000000000 then 10 * valF (s.data.toList.take i) + ((s[i].toNat : Int) - 48) else valF (s.data.toList.take i) := by rw [htk, valF_snoc]
    have hbd := valF_bd _ (s.data.toList.take i) rfl
    have dec : s.size - (i + 1) < s.size - i := by omega
    have w5 : IntKind.i64.wrap ((i : Int) + 1) = ((i + 1 : Nat) : Int) := wrapI (by omega) (by omega)
    generalize valF (s.data.toList.take i) = v at *
    have hdig : digB s[i] = (decide (48 ≤ s[i].toNat ∧ s[i].toNat ≤ 57)) := rfl
    by_cases c1 : (48 : Int) ≤ (s[i].toNat : Int)
    · by_cases c2 : (s[i].toNat : Int) ≤ 57
      · have d : digB s[i] = true := decide_eq_true (by omega)
        by_cases c3 : v < 1000000000
        · have w1 : IntKind.i64.wrap (10 * v) = 10 * v := wrapI (by omega) (by omega)
          have w2 : IntKind.u8.wrap ((s[i].toNat : Int) - 48) = (s[i].toNat : Int) - 48 := wrapU (by omega) (by omega)
          have w3 : IntKind.i64.wrap ((s[i].toNat : Int) - 48) = (s[i].toNat : Int) - 48 := wrapI (by omega) (by omega)
          have w4 : IntKind.i64.wrap (10 * v + ((s[i].toNat : Int) - 48)) = 10 * v + ((s[i].toNat : Int) - 48) := wrapI (by omega) (by omega)
          rw [if_pos ⟨d, c3⟩] at hsn
          simp -implicitDefEqProofs [hc, c1, c2, c3, w1, w2, w3, w4, w5]
          exact ⟨i + 1, Weak.tm (by simp [lk, hsn]), hc, dec⟩
        · rw [if_neg (fun h => c3 h.2)] at hsn
          simp -implicitDefEqProofs [hc, c1, c2, c3, w5]
          exact ⟨i + 1, Weak.tm (by simp [lk, hsn]), hc, dec⟩
      · rw [if_neg (fun h => by have := of_decide_eq_true h.1; omega)] at hsn
        simp -implicitDefEqProofs [hc, c1, c2, w5]
        exact ⟨i + 1, Weak.tm (by simp [lk, hsn]), hc, dec⟩
    · rw [if_neg (fun h => by have := of_decide_eq_true h.1; omega)] at hsn
      simp -implicitDefEqProofs [hc, c1, w5]
      exact ⟨i + 1, Weak.tm (by simp [lk, hsn]), hc, dec⟩
  · have hall : s.data.toList.take i = s.data.toList := List.take_of_length_le (by have : s.data.toList.length = s.size := rfl; omega)
    rw [hall]
    simp -implicitDefEqProofs [hc]
    refine GO_ret mixed 1000 ?_
    have hbd := valF_bd _ s.data.toList rfl
    have wn : IntKind.i64.wrap (-valF s.data.toList) = -valF s.data.toList := wrapI (by omega) (by omega)
    by_cases z : 0 < s.size
    · have z1 : (0 : Int) < s.size := by omega
      have hh : s.data.toList.head? = some s[0] := by rw [List.head?_eq_getElem?, List.getElem?_eq_getElem (by exact z), ba_at z]
      by_cases e : (s[0].toNat : Int) = 45
      · have e' : s[0] = 45 := UInt8.toNat.inj (by show s[0].toNat = 45; omega)
        have ev : valR s = -valF s.data.toList := by unfold valR; rw [hh, e', if_pos rfl]
        simp -implicitDefEqProofs [z, z1, e, wn, ev]
      · have ev : valR s = valF s.data.toList := by unfold valR; rw [hh, if_neg (fun q => e (by rw [Option.some.inj q]; rfl))]
        simp -implicitDefEqProofs [z, z1, e, ev]
    · have z0 : s.size = 0 := by omega
      have z1 : ¬ (0 : Int) < s.size := by omega
      have hh : s.data.toList = [] := List.length_eq_zero_iff.1 z0
      have ev : valR s = valF s.data.toList := by unfold valR; rw [hh]; simp
      simp -implicitDefEqProofs [z0, z1, ev]
end

theorem wrd_snoc (b : UInt8) : ∀ (l : List UInt8) (A : List (List UInt8)) (w : List UInt8), wrd l = A ++ [w] → wrd (l ++ [b]) = if b = 32 then A ++ [w] ++ [[]] else A ++ [w ++ [b]]
  | [], A, w, h => by
    have h : [[]] = A ++ [w] := h
    have : A = [] ∧ w = [] := by
      cases A with
      | nil => simp at h; exact ⟨rfl, h⟩
      | cons x xs => simp at h
    obtain ⟨rfl, rfl⟩ := this
    simp only [List.nil_append, wrd]
    split <;> rfl
  | c :: l, A, w, h => by
    obtain ⟨A', w', h'⟩ : ∃ A' w', wrd l = A' ++ [w'] := ⟨_, _, (List.dropLast_concat_getLast (wrd_ne l)).symm⟩
    have ih := wrd_snoc b l A' w' h'
    simp only [wrd] at h
    simp only [List.cons_append, wrd]
    by_cases hc : c = 32
    · simp only [hc, if_true] at h ⊢
      rw [h'] at h
      rw [ih]
      have e : ([] :: A') ++ [w'] = A ++ [w] := h
      obtain ⟨e1, e2⟩ := List.append_inj' e rfl
      cases e2
      rw [← e1]
      split <;> simp
    · simp only [hc, if_false] at h ⊢
      rw [ih]
      rw [h'] at h
      cases A' with
      | nil =>
        simp only [List.nil_append] at h ⊢
        have : A = [] ∧ w = c :: w' := by
          cases A with
          | nil => simp at h; exact ⟨rfl, h.symm⟩
          | cons x xs => simp at h
        obtain ⟨rfl, rfl⟩ := this
        by_cases hb : b = 32 <;> simp [hb]
      | cons x xs =>
        simp only [List.cons_append] at h ⊢
        have e : ((c :: x) :: xs) ++ [w'] = A ++ [w] := h
        obtain ⟨e1, e2⟩ := List.append_inj' e rfl
        cases e2
        rw [← e1]
        by_cases hb : b = 32 <;> simp [hb]

def wcs (w : List UInt8) : List AV := [.str ⟨w.toArray⟩]
theorem rows_words (s : ByteArray) : strRows (wordsV s) = (wrd s.data.toList).map wcs := by
  rw [← words_data, List.map_map, strRows]
  refine List.map_congr_left fun x _ => ?_
  simp [wcs, Function.comp]

def wdS (s : ByteArray) (p : Nat × List (List UInt8) × List UInt8) : St := ⟨[(4, .int .i64 p.1), (3, .osl 5 (p.2.1.length + 1)), (0, .str s)], [(5, .row 1 (p.2.1.map wcs ++ [[.str ⟨p.2.2.toArray⟩]]))]⟩

section
variable {G : Nat → Option (List AV)}

theorem wordsR_pc (s : ByteArray) (hs : s.size < 4294967281) : PC Tryd.prog G 72 [.str s] (.vsl (strRows (wordsV s))) := by
  (refine pc_ref01_wordsO (Nat.le_of_ble_eq_true rfl) fun R hG => GO_AR mixed 1000 ?_; subst hG)
  simp -implicitDefEqProofs [rc_ref01_wordsO, rr_ref01_wordsO]
  refine AR_loop (wdS s) (fun p => p.1 ≤ s.size ∧ wrd (s.data.toList.take p.1) = p.2.1 ++ [p.2.2] ∧ p.2.1.length ≤ p.1 ∧ p.2.2.length ≤ p.1) (fun p => s.size - p.1) (0, [], []) (Weak.sub (by simp [lk, keptA, AV.keys]) (by simp [lk, keptO, keptA, AV.keys])) ⟨Nat.zero_le _, rfl, by simp, by simp⟩ ?_
  rintro ⟨i, A, w⟩ ⟨hi, hw, hA, hW⟩
  simp only at hi hw hA hW
  refine GO_AR mixed 1000 ?_
  by_cases hc : i < s.size
  · have htk : s.data.toList.take (i + 1) = s.data.toList.take i ++ [s[i]] := by rw [List.take_succ_eq_append_getElem (by exact hc), ba_at hc]
    have hsn := wrd_snoc s[i] _ A w hw
    rw [← htk] at hsn
    have dec : s.size - (i + 1) < s.size - i := by omega
    have w5 : IntKind.i64.wrap ((i : Int) + 1) = (i : Int) + 1 := wrapI (by omega) (by omega)
    have hbd : (A.length + 1 + 1) * 16 ≤ 70368744177664 := by omega
    by_cases c1 : (s[i].toNat : Int) = 32
    · have e : s[i] = 32 := UInt8.toNat.inj (by show s[i].toNat = 32; omega)
      rw [if_pos e] at hsn
      simp -implicitDefEqProofs [wdS, hc, c1, w5, hbd]
      exact ⟨(i + 1, A ++ [w], []), Weak.sub (by simp [lk, keptA, AV.keys]) (by simp [lk, keptO, keptA, AV.keys, wcs]), ⟨hc, hsn, by simp; omega, by simp⟩, dec⟩
    · rw [if_neg (fun q => c1 (by rw [q]; rfl))] at hsn
      have w6 : IntKind.i64.wrap ((A.length : Int) + 1 - 1) = (A.length : Int) := by rw [wrapI (by omega) (by omega)]; omega
      have w7 : IntKind.i64.wrap (A.length : Int) = (A.length : Int) := wrapI (by omega) (by omega)
      have w8 : ((i : Int) + 1).toNat = i + 1 := by omega
      have w9 : (0 : Int) ≤ (i : Int) + 1 := by omega
      have w10 : i + 1 ≤ s.size := hc
      have hx1 : s.extract i (i + 1) = ⟨#[s[i]]⟩ := ba_ext (by
        rw [Lib.extract_data, Nat.add_sub_cancel_left, List.drop_eq_getElem_cons (by exact hc), ba_at hc]; rfl)
      have hx : (⟨w.toArray⟩ : ByteArray) ++ ⟨#[s[i]]⟩ = ⟨(w ++ [s[i]]).toArray⟩ := ba_ext (by simp [ByteArray.data_append])
      have hz := ba_size w
      have hz1 : (⟨#[s[i]]⟩ : ByteArray).size = 1 := rfl
      have hz2 : w.length + 1 ≤ 9223372036854775807 := by omega
      simp -implicitDefEqProofs [wdS, hc, c1, w5, w6, w7, w8, w9, w10, hx1, hx, hz, hz1, hz2]
      refine ⟨rfl, (i + 1, A, w ++ [s[i]]), Weak.sub (by simp [lk, keptA, AV.keys]) (by simp [lk, keptO, keptA, AV.keys, wcs]), ⟨hc, hsn, by show A.length ≤ i + 1; omega, by simp; omega⟩, dec⟩
  · have hall : s.data.toList.take i = s.data.toList := List.take_of_length_le (by have : s.data.toList.length = s.size := rfl; omega)
    rw [hall] at hw
    simp -implicitDefEqProofs [wdS, hc]
    refine GO_ret mixed 1000 ?_
    have p1 : (∀ x ∈ A, ∀ y ∈ wcs x, y.pure = true) = True := eq_true (by simp [wcs, AV.pure])
    simp -implicitDefEqProofs [rows_words, hw, p1]
    rfl

end

theorem valF_filter (l : List UInt8) : valF l = valF (l.filter digB) := by
  have gen : ∀ (l : List UInt8) (n : Int), l.foldl (fun n b => if digB b = true ∧ n < 1000000000 then 10 * n + ((b.toNat : Int) - 48) else n) n = (l.filter digB).foldl (fun n b => if digB b = true ∧ n < 1000000000 then 10 * n + ((b.toNat : Int) - 48) else n) n := by
    intro l
    induction l with
    | nil => intro n; rfl
    | cons b l ih =>
      intro n
      cases h : digB b
      · rw [List.filter_cons_of_neg (by simp [h]), List.foldl_cons, if_neg (by simp [h]), ih]
      · rw [List.filter_cons_of_pos h, List.foldl_cons, List.foldl_cons, ih]
  exact gen l 0
theorem valF_dig : ∀ (k : Nat) (l : List UInt8), l.length = k → k ≤ 10 → (∀ b ∈ l, digB b = true) → valF l = digF l := by
  intro k
  induction k with
  | zero => intro l hl _ _; rw [List.length_eq_zero_iff.1 hl]; rfl
  | succ k ih =>
    intro l hl hk h
    have hne : l ≠ [] := by rintro rfl; simp at hl
    obtain ⟨l', b, rfl⟩ : ∃ l' b, l = l' ++ [b] := ⟨_, _, (List.dropLast_concat_getLast hne).symm⟩
    have hl' : l'.length = k := by simpa using hl
    have hd : ∀ x ∈ l', digB x = true := fun x hx => h x (List.mem_append_left _ hx)
    have e := ih l' hl' (by omega) hd
    have hb := digF_bd l' hd
    have hp : (10 : Int) ^ l'.length ≤ 10 ^ 9 := by exact_mod_cast Nat.pow_le_pow_right (show 0 < 10 by omega) (show l'.length ≤ 9 by omega)
    rw [valF_snoc, digF_snoc, e, if_pos ⟨h b (by simp), by omega⟩]

theorem val_num {bh : Nat} (hb : bh ≤ 4) {w : ByteArray} {n : Int} (h : numV bh w = some n) : valF w.data.toList = n ∧ w.data.toList.head? ≠ some 45 := by
  unfold numV at h
  split at h
  case isFalse => cases h
  case isTrue hc =>
    obtain ⟨h0, h1, h2, h3, h4, h5⟩ := hc
    simp only [Option.some.injEq] at h
    have hs := cutV_of h0
    have h5' := List.all_eq_true.1 h5
    generalize cutV w = c at *
    obtain ⟨x, p, is⟩ := c
    simp only at h h0 h1 h2 h3 h4 h5 hs h5'
    have ex : x.data.toList.length = x.size := rfl
    have ep : p.data.toList.length = p.size := rfl
    constructor
    · have hf : (x.data.toList ++ 46 :: p.data.toList).filter digB = x.data.toList ++ p.data.toList := by
        rw [List.filter_append, List.filter_cons_of_neg (by decide), List.filter_eq_self.2 (fun b hb => h5' b (List.mem_append_left _ hb)), List.filter_eq_self.2 (fun b hb => h5' b (List.mem_append_right _ hb))]
      rw [hs, valF_filter, hf, valF_dig _ _ rfl (by rw [List.length_append]; omega) h5', h]
    · rw [hs]
      cases e : x.data.toList with
      | nil => rw [e] at ex; simp at ex; omega
      | cons b r =>
        have hd := of_decide_eq_true (h5' b (by rw [e]; simp))
        intro q
        rw [List.cons_append, List.head?_cons] at q
        have := congrArg UInt8.toNat (Option.some.inj q)
        have h45 : (45 : UInt8).toNat = 45 := rfl
        omega
theorem valR_num {bh : Nat} (hb : bh ≤ 4) {w : ByteArray} {n : Int} (h : numV bh w = some n) : valR w = n := by
  obtain ⟨h1, h2⟩ := val_num hb h
  unfold valR
  rw [if_neg h2, h1]
theorem valR_dev {bh : Nat} (hb : bh ≤ 4) {w : ByteArray} {n : Int} (h : devV bh w = some n) : valR w = n := by
  unfold devV at h
  split at h
  · cases h
  · rename_i b r hl
    have hx := extract_one hl
    have hv : digB b = false → valF w.data.toList = valF r := fun hb => by
      rw [hl, valF_filter, List.filter_cons_of_neg (by simp [hb]), ← valF_filter]
    unfold valR
    split at h
    · rename_i e
      subst e
      have := (val_num hb h).1
      rw [hx] at this
      rw [hv (by decide), hl, List.head?_cons, if_neg (by decide), this]
    · split at h
      · rename_i e
        subst e
        split at h <;> try (cases h; done)
        rename_i m hm
        split at h <;> simp only [Option.some.injEq, reduceCtorEq] at h
        have := (val_num hb hm).1
        rw [hx] at this
        rw [hv (by decide), hl, List.head?_cons, if_pos rfl, this, h]
      · cases h

/-- What the reference tries. -/
theorem readV_cand {s w0 w1 w2 w3 : ByteArray} (hw : wordsV s = [w0, w1, w2, w3]) (d : Dm) (k : Int) (h : readV s = some (d, k)) : d = rdD k (valR w0) (valR w1) (valR w2) := by
  obtain ⟨hk, hv, hx, hs, v0, v1, v2, n, a, b, hws, hn, ha, hb, rfl⟩ := wr_readV h
  rw [hw] at hws
  simp only [List.cons.injEq, and_true] at hws
  obtain ⟨rfl, rfl, rfl, -⟩ := hws
  have hbh : bhV k ≤ 4 := by unfold bhV; split <;> omega
  rw [valR_num hbh hn, valR_dev hbh ha, valR_dev hbh hb]

theorem cand_readV {s : ByteArray} {k n a b : Int} (hk : k = 1 ∨ k = 2) (hv : vd (rdD k n a b) = true) (h : wrV (rdD k n a b) k = s) : readR s = (rdD k n a b, k, 0) := by
  have := readV_wr (rdD k n a b) k hk hv (decide_eq_true ⟨Int.mul_emod_left _ _, Int.mul_emod_left _ _, Int.mul_emod_left _ _⟩)
  rw [h] at this
  unfold readR; rw [this]

section
variable {G : Nat → Option (List AV)}

theorem readRef_pc (hg : Gs G) (s : ByteArray) (hs : s.size < 4294967281) :
    PC Tryd.prog G 38 [.str s] (.tup [.agg [.int .i64 (readR s).1.n, .int .i64 (readR s).1.l, .int .i64 (readR s).1.u], .int .u8 (readR s).2.1, .int .i64 (readR s).2.2]) := by
  (refine pc_ref01_Read (Nat.le_of_ble_eq_true rfl) fun R hG => GO_AR mixed 1000 ?_; subst hG)
  by_cases z : 80 < s.size
  · have z1 : (80 : Int) < s.size := by omega
    have hn : readR s = (Dm.zero, 0, 13) := by
      unfold readR
      cases h : readV s with
      | none => rfl
      | some p =>
        obtain ⟨hk, hv, -, hw, -⟩ := wr_readV h
        have := wrV_le p.1 p.2 hk hv
        rw [← hw] at this; omega
    rw [hn]
    simp -implicitDefEqProofs [rc_ref01_Read, rr_ref01_Read, z1, Dm.zero]
  have z1 : ¬ (80 : Int) < s.size := by omega
  simp -implicitDefEqProofs [rc_ref01_Read, rr_ref01_Read, z1]
  (first | refine CallK.of (wordsR_pc s hs) (by simp) ?_ | refine CallD.of (wordsR_pc s hs) (by simp) ?_)
  by_cases h4 : (wordsV s).length = 4
  case neg =>
    have h4' : ¬ ((wordsV s).length : Int) = 4 := by omega
    have hn : readR s = (Dm.zero, 0, 13) := by
      unfold readR readV
      split
      · rename_i e
        split at e
        · rename_i hw; rw [hw] at h4; simp at h4
        · cases e
      · rfl
    rw [hn]
    simp -implicitDefEqProofs [strRows, h4, h4', Dm.zero]
  obtain ⟨w0, w1, w2, w3, hw⟩ : ∃ w0 w1 w2 w3, wordsV s = [w0, w1, w2, w3] := by
    match e : wordsV s, h4 with
    | [a, b, c, d], _ => exact ⟨a, b, c, d, rfl⟩
  have hle : ∀ x ∈ wordsV s, x.size < 4294967281 := fun x hx => Nat.lt_of_le_of_lt (splitB_le _ _ _ _ hx) hs
  rw [hw] at hle ⊢
  have l0 := hle w0 (by simp)
  have l1 := hle w1 (by simp)
  have l2 := hle w2 (by simp)
  have bd : ∀ w : ByteArray, -10000000000 < valR w ∧ valR w < 10000000000 := fun w => by
    have := valF_bd _ w.data.toList rfl
    unfold valR
    split <;> omega
  have b0 := bd w0
  have b1 := bd w1
  have b2 := bd w2
  simp -implicitDefEqProofs [strRows]
  refine AR_rounds 3 ?_
  have valueR_pc0 := valueR_pc (G := R.G) w0 l0
  have valueR_pc1 := valueR_pc (G := R.G) w1 l1
  have valueR_pc2 := valueR_pc (G := R.G) w2 l2
  obtain ⟨n, hn⟩ : ∃ n, n = valR w0 := ⟨_, rfl⟩
  obtain ⟨a, ha⟩ : ∃ a, a = valR w1 := ⟨_, rfl⟩
  obtain ⟨b, hb⟩ : ∃ b, b = valR w2 := ⟨_, rfl⟩
  rw [← hn] at b0 valueR_pc0
  rw [← ha] at b1 valueR_pc1
  rw [← hb] at b2 valueR_pc2
  have c0 : IntKind.i64.wrap (n + a) = n + a := wrapI (by omega) (by omega)
  have c1 : IntKind.i64.wrap (n + b) = n + b := wrapI (by omega) (by omega)
  have a1 : IntKind.i64.wrap (n * 100) = n * 100 := wrapI (by omega) (by omega)
  have d1 : IntKind.i64.wrap ((n + a) * 100) = (n + a) * 100 := wrapI (by omega) (by omega)
  have e1 : IntKind.i64.wrap ((n + b) * 100) = (n + b) * 100 := wrapI (by omega) (by omega)
  have a2 : IntKind.i64.wrap (n * 254) = n * 254 := wrapI (by omega) (by omega)
  have d2 : IntKind.i64.wrap ((n + a) * 254) = (n + a) * 254 := wrapI (by omega) (by omega)
  have e2 : IntKind.i64.wrap ((n + b) * 254) = (n + b) * 254 := wrapI (by omega) (by omega)
  have wr2' : IntKind.u8.wrap 2 = 2 := rfl
  have wr3' : IntKind.u8.wrap 3 = 3 := rfl
  unfold ARn
  refine GO_AR mixed 1000 ?_
  simp -implicitDefEqProofs []
  (first | refine CallK.of (step_pc 1) (by simp) ?_ | refine CallD.of (step_pc 1) (by simp) ?_)
  simp -implicitDefEqProofs [stp]
  (first | refine CallK.of (valueR_pc0) (by simp) ?_ | refine CallD.of (valueR_pc0) (by simp) ?_)
  simp -implicitDefEqProofs [a1]
  (first | refine CallK.of (valueR_pc1) (by simp) ?_ | refine CallD.of (valueR_pc1) (by simp) ?_)
  simp -implicitDefEqProofs [a1, c0, d1]
  (first | refine CallK.of (valueR_pc2) (by simp) ?_ | refine CallD.of (valueR_pc2) (by simp) ?_)
  simp -implicitDefEqProofs [a1, c0, c1, d1, e1]
  refine ⟨rfl, ?_⟩
  (first | refine CallK.of (dim_pc (n * 100) ((n + a) * 100) ((n + b) * 100)) (by simp) ?_ | refine CallD.of (dim_pc (n * 100) ((n + a) * 100) ((n + b) * 100)) (by simp) ?_)
  have r1 : rdD 1 n a b = ⟨n * 100, (n + a) * 100, (n + b) * 100⟩ := by simp [rdD, stp]
  have next1 : (vd ⟨n * 100, (n + a) * 100, (n + b) * 100⟩ = true → ¬ wrV ⟨n * 100, (n + a) * 100, (n + b) * 100⟩ 1 = s) → ∀ (d : Dm), readV s = some (d, 1) → False := fun h d hr => by
    obtain ⟨-, hv, -, hs', -⟩ := wr_readV hr
    have e := readV_cand hw d 1 hr
    rw [← hn, ← ha, ← hb, r1] at e
    subst e
    exact h hv hs'.symm
  cases hv1 : vd ⟨n * 100, (n + a) * 100, (n + b) * 100⟩
  case' false =>
    have nx1 := next1 (fun q => by rw [hv1] at q; cases q)
    simp -implicitDefEqProofs [wr2', wr3']
  case' true =>
    by_cases he1 : wrV ⟨n * 100, (n + a) * 100, (n + b) * 100⟩ 1 = s
    · have f1 : ((wrV ⟨n * 100, (n + a) * 100, (n + b) * 100⟩ 1).toList == s.toList) = true := by rw [he1]; simp
      have f2 : readR s = (⟨n * 100, (n + a) * 100, (n + b) * 100⟩, 1, 0) := by
        have := cand_readV (s := s) (k := 1) (n := n) (a := a) (b := b) (by omega) (by rw [r1]; exact hv1) (by rw [r1]; exact he1)
        rw [r1] at this; exact this
      rw [f2]
      simp -implicitDefEqProofs []
      (first | refine CallK.of (writtenR_pc ⟨n * 100, (n + a) * 100, (n + b) * 100⟩ 1 (by omega) hv1) (by simp) ?_ | refine CallD.of (writtenR_pc ⟨n * 100, (n + a) * 100, (n + b) * 100⟩ 1 (by omega) hv1) (by simp) ?_)
      simp -implicitDefEqProofs [f1]
      refine GO_ret mixed 1000 ?_
      simp -implicitDefEqProofs []
    have f1 : ((wrV ⟨n * 100, (n + a) * 100, (n + b) * 100⟩ 1).toList == s.toList) = false := toList_ne (fun q => he1 q.symm)
    have nx1 := next1 fun _ => he1
    simp -implicitDefEqProofs []
    (first | refine CallK.of (writtenR_pc ⟨n * 100, (n + a) * 100, (n + b) * 100⟩ 1 (by omega) hv1) (by simp) ?_ | refine CallD.of (writtenR_pc ⟨n * 100, (n + a) * 100, (n + b) * 100⟩ 1 (by omega) hv1) (by simp) ?_)
    simp -implicitDefEqProofs [f1, wr2', wr3']
  all_goals
    refine ARn_weak (st' := ⟨[(6, .int .u8 2), (5, .vsl [[.str w0], [.str w1], [.str w2], [.str w3]]), (4, .int .i64 0), (3, .int .u8 0), (2, .ptr 2 0), (0, .str s)], [(2, .box [.int .i64 0, .int .i64 0, .int .i64 0])]⟩) (Weak.sub (by simp [lk, keptA, AV.keys]) (by simp [lk, keptO, keptA, AV.keys])) ?_
    unfold ARn
    refine GO_AR mixed 1000 ?_
    simp -implicitDefEqProofs []
    (first | refine CallK.of (step_pc 2) (by simp) ?_ | refine CallD.of (step_pc 2) (by simp) ?_)
    simp -implicitDefEqProofs [stp]
    (first | refine CallK.of (valueR_pc0) (by simp) ?_ | refine CallD.of (valueR_pc0) (by simp) ?_)
    simp -implicitDefEqProofs [a2]
    (first | refine CallK.of (valueR_pc1) (by simp) ?_ | refine CallD.of (valueR_pc1) (by simp) ?_)
    simp -implicitDefEqProofs [a2, c0, d2]
    (first | refine CallK.of (valueR_pc2) (by simp) ?_ | refine CallD.of (valueR_pc2) (by simp) ?_)
    simp -implicitDefEqProofs [a2, c0, c1, d2, e2]
    refine ⟨rfl, ?_⟩
    (first | refine CallK.of (dim_pc (n * 254) ((n + a) * 254) ((n + b) * 254)) (by simp) ?_ | refine CallD.of (dim_pc (n * 254) ((n + a) * 254) ((n + b) * 254)) (by simp) ?_)
    have r2 : rdD 2 n a b = ⟨n * 254, (n + a) * 254, (n + b) * 254⟩ := by simp [rdD, stp]
    have next2 : (vd ⟨n * 254, (n + a) * 254, (n + b) * 254⟩ = true → ¬ wrV ⟨n * 254, (n + a) * 254, (n + b) * 254⟩ 2 = s) → ∀ (d : Dm), readV s = some (d, 2) → False := fun h d hr => by
      obtain ⟨-, hv, -, hs', -⟩ := wr_readV hr
      have e := readV_cand hw d 2 hr
      rw [← hn, ← ha, ← hb, r2] at e
      subst e
      exact h hv hs'.symm
    cases hv2 : vd ⟨n * 254, (n + a) * 254, (n + b) * 254⟩
    case' false =>
      have nx2 := next2 (fun q => by rw [hv2] at q; cases q)
      simp -implicitDefEqProofs [wr2', wr3']
    case' true =>
      by_cases he2 : wrV ⟨n * 254, (n + a) * 254, (n + b) * 254⟩ 2 = s
      · have f1 : ((wrV ⟨n * 254, (n + a) * 254, (n + b) * 254⟩ 2).toList == s.toList) = true := by rw [he2]; simp
        have f2 : readR s = (⟨n * 254, (n + a) * 254, (n + b) * 254⟩, 2, 0) := by
          have := cand_readV (s := s) (k := 2) (n := n) (a := a) (b := b) (by omega) (by rw [r2]; exact hv2) (by rw [r2]; exact he2)
          rw [r2] at this; exact this
        rw [f2]
        simp -implicitDefEqProofs []
        (first | refine CallK.of (writtenR_pc ⟨n * 254, (n + a) * 254, (n + b) * 254⟩ 2 (by omega) hv2) (by simp) ?_ | refine CallD.of (writtenR_pc ⟨n * 254, (n + a) * 254, (n + b) * 254⟩ 2 (by omega) hv2) (by simp) ?_)
        simp -implicitDefEqProofs [f1]
        refine GO_ret mixed 1000 ?_
        simp -implicitDefEqProofs []
      have f1 : ((wrV ⟨n * 254, (n + a) * 254, (n + b) * 254⟩ 2).toList == s.toList) = false := toList_ne (fun q => he2 q.symm)
      have nx2 := next2 fun _ => he2
      simp -implicitDefEqProofs []
      (first | refine CallK.of (writtenR_pc ⟨n * 254, (n + a) * 254, (n + b) * 254⟩ 2 (by omega) hv2) (by simp) ?_ | refine CallD.of (writtenR_pc ⟨n * 254, (n + a) * 254, (n + b) * 254⟩ 2 (by omega) hv2) (by simp) ?_)
      simp -implicitDefEqProofs [f1, wr2', wr3']
    all_goals
      refine ARn_weak (st' := ⟨[(6, .int .u8 3), (5, .vsl [[.str w0], [.str w1], [.str w2], [.str w3]]), (4, .int .i64 0), (3, .int .u8 0), (2, .ptr 2 0), (0, .str s)], [(2, .box [.int .i64 0, .int .i64 0, .int .i64 0])]⟩) (Weak.sub (by simp [lk, keptA, AV.keys]) (by simp [lk, keptO, keptA, AV.keys])) ?_
      unfold ARn
      refine GO_AR mixed 1000 ?_
      simp -implicitDefEqProofs []
      have hN : readR s = (Dm.zero, 0, 13) := by
        unfold readR
        cases h : readV s with
        | none => rfl
        | some p =>
          obtain ⟨d, k⟩ := p
          obtain ⟨hk, -⟩ := wr_readV h
          rcases hk with rfl | rfl
          · exact (nx1 d h).elim
          · exact (nx2 d h).elim
      rw [hN]
      refine GO_ret mixed 1000 ?_
      simp -implicitDefEqProofs [Dm.zero]
end
end Go.Proofs.YtikjooemblpnbaaDoor

/-! The law SizeWrites: what it tells. -/
namespace Go.Proofs.YtikjooemblpnbaaDoor
open Go.RowKit

section
variable {G : Nat → Option (List AV)}

theorem exactRef_pc (d : Dm) : PC Tryd.prog G 34 [.agg [.int .i64 d.n, .int .i64 d.l, .int .i64 d.u]] (.tup [.int .u8 (exactV d), .int .i64 (chk d)]) := by
  refine ⟨by kernel_rfl, fun M W vs hM hG hs hv => ?_⟩
  obtain ⟨l⟩ := vs
  match l, hs, hv with
  | [x0], _, hv =>
    rw [(hv 0 _ x0 rfl rfl).agg3_inv]
    refine (exactR_any d W).mono ?_
    rintro e w ⟨rfl, he⟩
    exact ⟨_, rfl, .tup2 (.int _ _) (.int _ _), he⟩

set_option maxHeartbeats 2000000 in
set_option maxRecDepth 8000 in
theorem sizeWrites_pc (hg : Gs G) (d : Dm) (k : Int) (s : ByteArray) (o0 : 0 ≤ k) (o1 : k ≤ 255) (_sz : s.size ≤ maxLen) :
    PC Tryd.prog G 5 [.agg [.int .i64 d.n, .int .i64 d.l, .int .i64 d.u], .int .u8 k, .str s] (.bool true) := by
  have hU := hg.1
  (refine pc_law01_SizeWrites (Nat.le_of_ble_eq_true rfl) fun R hG => GO_AR mixed 1000 ?_; subst hG)
  by_cases z : 200 < s.size
  · have z1 : (200 : Int) < s.size := by omega
    simp -implicitDefEqProofs [rc_law01_SizeWrites, rr_law01_SizeWrites, z1]
  have z1 : ¬ (200 : Int) < s.size := by omega
  simp -implicitDefEqProofs [rc_law01_SizeWrites, rr_law01_SizeWrites, z1]
  (first | refine CallK.of (exactSz_pc hU d) (by simp) ?_ | refine CallD.of (exactSz_pc hU d) (by simp) ?_)
  simp -implicitDefEqProofs []
  (first | refine CallK.of (exactRef_pc d) (by simp) ?_ | refine CallD.of (exactRef_pc d) (by simp) ?_)
  simp -implicitDefEqProofs []
  (first | refine CallK.of (write_pc hU d k (by omega) (by omega)) (by simp) ?_ | refine CallD.of (write_pc hU d k (by omega) (by omega)) (by simp) ?_)
  simp -implicitDefEqProofs []
  (first | refine CallK.of (writeR_pc d k) (by simp) ?_ | refine CallD.of (writeR_pc d k) (by simp) ?_)
  simp -implicitDefEqProofs []
  (first | refine CallK.of (read_pc hg s (by omega)) (by simp) ?_ | refine CallD.of (read_pc hg s (by omega)) (by simp) ?_)
  simp -implicitDefEqProofs []
  (first | refine CallK.of (readRef_pc hg s (by omega)) (by simp) ?_ | refine CallD.of (readRef_pc hg s (by omega)) (by simp) ?_)
  simp -implicitDefEqProofs []
  (first | refine CallK.of (checkS_pc d) (by simp) ?_ | refine CallD.of (checkS_pc d) (by simp) ?_)
  simp -implicitDefEqProofs []
  (first | refine CallK.of (check_pc d.n d.l d.u) (by simp) ?_ | refine CallD.of (check_pc d.n d.l d.u) (by simp) ?_)
  simp -implicitDefEqProofs []
  rfl
end
end Go.Proofs.YtikjooemblpnbaaDoor
