/-
  strings.Join of four strings; what size.Write writes.
-/
import Derived.Test.YtikjooemblpnbaaDoorWa
import Derived.Test.YtikjooemblpnbaaDoorShelf
import Derived.Test.YtikjooemblpnbaaDoorOd
namespace Go.Proofs.YtikjooemblpnbaaDoor
open Go.RowKit

def sp1 : ByteArray := ⟨#[32]⟩
/-- Four words, a space between. -/
def jn (a b c d : ByteArray) : ByteArray := a ++ sp1 ++ b ++ sp1 ++ c ++ sp1 ++ d

theorem jn_join (a b c d : ByteArray) : (⟨(Lib.join ([a, b, c, d].map (·.data.toList)) sp1.data.toList).toArray⟩ : ByteArray) = jn a b c d := by
  refine ByteArray.ext ?_
  simp [jn, Lib.join, List.intercalate, sp1, ByteArray.data_append, List.intersperse]

section
variable {G : Nat → Option (List AV)}

theorem join_pc (a b c d : ByteArray) (h : a.size + b.size + c.size + d.size ≤ 100000000000000) : PC Tryd.prog G 65 [.vsl [[.str a], [.str b], [.str c], [.str d]], .str ⟨#[32]⟩] (.str (jn a b c d)) := by
  refine ⟨by kernel_rfl, fun M W vs hM hG hs hv => ?_⟩
  obtain ⟨l⟩ := vs
  match l, hs, hv with
  | [x0, x1], _, hv =>
    rw [(hv 1 _ x1 rfl rfl).str_inv]
    have h0 := hv 0 _ x0 rfl rfl
    cases h0 with
    | vsl _ ad cap sz bk o f hcap hmax ha hn hsz hc hr =>
      obtain ⟨rfl, hb, -⟩ := ha (by simp)
      obtain rfl : 1 = sz := hsz [.str a] (by simp)
      have cell : ∀ (j : Nat) (x : ByteArray), [a, b, c, d][j]? = some x → W.cell? ⟨bk, o + j, none⟩ = some (.string x) := fun j x hj => by
        have hj4 : j < 4 := (List.getElem?_eq_some_iff.1 hj).1
        have h1 := hc j 0 (by simpa using hj4) (by omega)
        have h2 : PV M W (.str x) (f j 0) := by
          match j, hj4, hj with
          | 0, _, hj => cases hj; exact hr 0 0 _ _ rfl rfl
          | 1, _, hj => cases hj; exact hr 1 0 _ _ rfl rfl
          | 2, _, hj => cases hj; exact hr 2 0 _ _ rfl rfl
          | 3, _, hj => cases hj; exact hr 3 0 _ _ rfl rfl
        rw [h2.str_inv] at h1
        simpa using h1
      have hl : (Lib.join ([a, b, c, d].map (·.data.toList)) sp1.data.toList).length ≤ 140737488355328 := by
        have e := jn_join a b c d
        have : (Lib.join ([a, b, c, d].map (·.data.toList)) sp1.data.toList).length = (jn a b c d).size := by rw [← e]; rfl
        rw [this]
        simp only [jn, ByteArray.size_append]
        have : sp1.size = 1 := rfl
        omega
      refine (Tryd.strings_Join bk o cap [a, b, c, d] sp1 W cell hb (by simp) hcap hl).mono ?_
      rintro e w ⟨rfl, he⟩
      rw [jn_join]
      exact ⟨_, rfl, .str _, he.os, he.tape, he.output, he.size, he.block⟩

/-- How many digits stand behind the point. -/
def bhV (k : Int) : Nat := if k = 1 then 3 else 4
def nmV (k : Int) : ByteArray := if k = 1 then nameMm else nameIn
/-- How a size is written that is exact. -/
def wrV (d : Dm) (k : Int) : ByteArray := jn (wnS (bhV k) (d.n / stp k).toNat) (sgS (bhV k) ((d.l - d.n).tdiv (stp k))) (sgS (bhV k) ((d.u - d.n).tdiv (stp k))) (nmV k)
/-- How a size is written, and the error. -/
def writeV (d : Dm) (k : Int) : ByteArray × Int :=
  if vd d = true then if stp k = 0 then (⟨#[]⟩, 11) else if exa d (stp k) = true then (wrV d k, 0) else (⟨#[]⟩, 12) else (⟨#[]⟩, 10)

theorem wn_size (bh m : Nat) (hb : bh ≤ 100) (hm : m ≤ 10000000000) : (wnS bh m).size ≤ 10000000200 := by
  have h := dg_len (bh + 1) m
  unfold wnS
  rw [ByteArray.size_append, ByteArray.size_append, strOfNums_size, strOfNums_size, List.length_take, List.length_drop]
  have : (⟨#[46]⟩ : ByteArray).size = 1 := rfl
  omega
theorem sg_size (bh : Nat) (n : Int) (hb : bh ≤ 100) (hn : -10000000000 ≤ n ∧ n ≤ 10000000000) : (sgS bh n).size ≤ 10000000201 := by
  unfold sgS
  split
  · have := wn_size bh (-n).toNat hb (by omega)
    rw [ByteArray.size_append]
    have : (⟨#[45]⟩ : ByteArray).size = 1 := rfl
    omega
  · have := wn_size bh n.toNat hb (by omega)
    rw [ByteArray.size_append]
    have : (⟨#[43]⟩ : ByteArray).size = 1 := rfl
    omega

theorem write_pc (hU : G 0 = some unitsT) (d : Dm) (k : Int) (k0 : 0 ≤ k) (k1 : k ≤ 255) :
    PC Tryd.prog G 35 [.agg [.int .i64 d.n, .int .i64 d.l, .int .i64 d.u], .int .u8 k] (.tup [.str (writeV d k).1, .int .i64 (writeV d k).2]) := by
  (refine pc_size_Write (Nat.le_of_ble_eq_true rfl) fun R hG => GO_AR mixed 1000 ?_; subst hG)
  simp -implicitDefEqProofs [rc_size_Write, rr_size_Write]
  (first | refine CallK.of (checkS_pc d) (by simp) ?_ | refine CallD.of (checkS_pc d) (by simp) ?_)
  cases h1 : vd d
  · simp -implicitDefEqProofs [chk, h1, writeV]
  · simp -implicitDefEqProofs [chk, h1]
    (first | refine CallK.of (of_pc hU k k0 k1) (by simp) ?_ | refine CallD.of (of_pc hU k k0 k1) (by simp) ?_)
    by_cases h3 : stp k = 0
    · have hk1 : ¬ k = 1 := by rintro rfl; simp [stp] at h3
      have hk2 : ¬ k = 2 := by rintro rfl; simp [stp] at h3
      simp -implicitDefEqProofs [h3, unitCs, hk1, hk2, writeV, h1]
    · have hs : k = 1 ∧ stp k = 100 ∨ k = 2 ∧ stp k = 254 := by
        unfold stp at h3 ⊢
        by_cases e1 : k = 1
        · simp [e1]
        · by_cases e2 : k = 2
          · simp [e2]
          · simp [e1, e2] at h3
      obtain ⟨x0, x1, x2, x3, x4⟩ := of_decide_eq_true h1
      have hC : unitCs k = [.int .i64 (stp k), .int .i64 (bhV k), .str (nmV k), .func (.func 143) [] []] := by
        rcases hs with ⟨rfl, e⟩ | ⟨rfl, e⟩ <;> rw [e] <;> rfl
      have hb : bhV k ≤ 100 := by unfold bhV; split <;> omega
      have hex : PC Tryd.prog R.G 60 [.agg (unitCs k), .vsl ([d.n, d.l, d.u].map ics)] (.bool ([d.n, d.l, d.u].all fun n => decide (n % stp k = 0))) := exactS_pc (stp k) k hs [d.n, d.l, d.u] (by simp) (by simp; omega)
      rw [hC] at hex
      simp -implicitDefEqProofs [h3, hC]
      (first | refine CallK.of (hex) (by simp) ?_ | refine CallD.of (hex) (by simp) ?_)
      have he : ([d.n, d.l, d.u].all fun n => decide (n % stp k = 0)) = exa d (stp k) := by simp [exa, Bool.decide_and]
      rw [he]
      cases h4 : exa d (stp k)
      · simp -implicitDefEqProofs [writeV, h1, h3, h4]
      · have w1 : IntKind.i64.wrap (d.l - d.n) = d.l - d.n := wrapI (by omega) (by omega)
        have w2 : IntKind.i64.wrap (d.u - d.n) = d.u - d.n := wrapI (by omega) (by omega)
        have s0 : 100 ≤ stp k := by omega
        have s1 : stp k ≤ 254 := by omega
        have e0 : writeV d k = (jn (wnS (bhV k) (d.n / stp k).toNat) (sgS (bhV k) ((d.l - d.n).tdiv (stp k))) (sgS (bhV k) ((d.u - d.n).tdiv (stp k))) (nmV k), 0) := by simp [writeV, h1, h3, h4, wrV]
        generalize stp k = s at *
        have tb : ∀ x : Int, -1000000000 ≤ x → x ≤ 1000000000 → -1000000000 ≤ x.tdiv s ∧ x.tdiv s ≤ 1000000000 := fun x y0 y1 => by
          rcases Int.le_total 0 x with c | c
          · rw [Int.tdiv_eq_ediv_of_nonneg c]
            have := Int.ediv_nonneg c (show 0 ≤ s by omega)
            have := Int.ediv_le_self s c
            omega
          · have e : x.tdiv s = -((-x).tdiv s) := by rw [Int.neg_tdiv, Int.neg_neg]
            rw [e, Int.tdiv_eq_ediv_of_nonneg (show 0 ≤ -x by omega)]
            have := Int.ediv_nonneg (show 0 ≤ -x by omega) (show 0 ≤ s by omega)
            have := Int.ediv_le_self s (show 0 ≤ -x by omega)
            omega
        have t1 := tb d.n (by omega) (by omega)
        have t2 := tb (d.l - d.n) (by omega) (by omega)
        have t3 := tb (d.u - d.n) (by omega) (by omega)
        have v1 : IntKind.i64.wrap (d.n.tdiv s) = d.n.tdiv s := wrapI (by omega) (by omega)
        have v2 : IntKind.i64.wrap ((d.l - d.n).tdiv s) = (d.l - d.n).tdiv s := wrapI (by omega) (by omega)
        have v3 : IntKind.i64.wrap ((d.u - d.n).tdiv s) = (d.u - d.n).tdiv s := wrapI (by omega) (by omega)
        have q1 : d.n.tdiv s = ((d.n / s).toNat : Int) := by
          rw [Int.tdiv_eq_ediv_of_nonneg (by omega)]
          have := Int.ediv_nonneg (show 0 ≤ d.n by omega) (show 0 ≤ s by omega)
          omega
        have hsz : (wnS (bhV k) (d.n / s).toNat).size + (sgS (bhV k) ((d.l - d.n).tdiv s)).size + (sgS (bhV k) ((d.u - d.n).tdiv s)).size + (nmV k).size ≤ 100000000000000 := by
          have a1 := wn_size (bhV k) (d.n / s).toNat hb (by omega)
          have a2 := sg_size (bhV k) ((d.l - d.n).tdiv s) hb (by omega)
          have a3 := sg_size (bhV k) ((d.u - d.n).tdiv s) hb (by omega)
          have a4 : (nmV k).size ≤ 2 := by unfold nmV; split <;> decide
          omega
        simp -implicitDefEqProofs [h3, v1, v2, v3, w1, w2]
        rw [q1]
        (first | refine CallK.of (decimal_pc s (bhV k) _ (nmV k) 143 hb (by omega)) (by simp) ?_ | refine CallD.of (decimal_pc s (bhV k) _ (nmV k) 143 hb (by omega)) (by simp) ?_)
        simp -implicitDefEqProofs [h3, v2, w1, w2]
        (first | refine CallK.of (signed_pc s (bhV k) _ (nmV k) 143 hb (by omega)) (by simp) ?_ | refine CallD.of (signed_pc s (bhV k) _ (nmV k) 143 hb (by omega)) (by simp) ?_)
        simp -implicitDefEqProofs [h3, v3, w1, w2]
        (first | refine CallK.of (signed_pc s (bhV k) _ (nmV k) 143 hb (by omega)) (by simp) ?_ | refine CallD.of (signed_pc s (bhV k) _ (nmV k) 143 hb (by omega)) (by simp) ?_)
        simp -implicitDefEqProofs [List.range, List.range.loop]
        refine ⟨rfl, ?_⟩
        (first | refine CallK.of (join_pc _ _ _ _ hsz) (by simp) ?_ | refine CallD.of (join_pc _ _ _ _ hsz) (by simp) ?_)
        simp -implicitDefEqProofs [e0]
end
end Go.Proofs.YtikjooemblpnbaaDoor
