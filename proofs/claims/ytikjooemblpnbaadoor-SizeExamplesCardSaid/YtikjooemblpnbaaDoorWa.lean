/-
  Bytes: what slices.Reverse does to an own slice; how a number is written (decimal, signed).
-/
import Derived.Test.YtikjooemblpnbaaDoorRcC
import Derived.Test.YtikjooemblpnbaaDoorOc
namespace Go.Proofs.YtikjooemblpnbaaDoor
open Go.RowKit

/-- Bytes as rows. -/
def ub (l : List Int) : List (List AV) := l.map fun n => [AV.int .u8 n]
theorem ub_len (l : List Int) : (ub l).length = l.length := by simp [ub]
def at0 (l : List Int) (i : Nat) : Int := l.getD i 0
theorem ub_at {l : List Int} {i : Nat} (h : i < (ub l).length) : (ub l)[i] = [.int .u8 (at0 l i)] := by
  have h' : i < l.length := by simpa [ub] using h
  simp [ub, at0, h']
theorem ub_set (l : List Int) (i : Nat) (v : Int) : (ub l).set i [.int .u8 v] = ub (l.set i v) := by simp [ub, List.map_set]
theorem ub_take (l : List Int) (i : Nat) : (ub l).take i = ub (l.take i) := by simp [ub, List.map_take]
theorem ub_drop (l : List Int) (i : Nat) : (ub l).drop i = ub (l.drop i) := by simp [ub, List.map_drop]
theorem ub_app (l : List Int) (v : Int) : ub l ++ [[.int .u8 v]] = ub (l ++ [v]) := by simp [ub]
theorem ub_ints (l : List Int) : rowInts (ub l) = some l := rowInts_map l
theorem ub_pure (l : List Int) : (ub l).all (fun r => r.all AV.pure) = true := by simp [ub, AV.pure]
theorem ub_one (l : List Int) : (ub l).all (fun r => r.length == 1) = true := by simp [ub]
theorem ub_kept (l : List Int) (o : List (Nat × AObj)) : ((ub l).all fun r => r.all (keptA o)) = true := by simp [ub, keptA, AV.keys]
theorem ub_ren (l : List Int) (ρ : Nat → Nat) : AObj.ren ρ (.row 1 (ub l)) = .row 1 (ub l) := AObj.ren_pure (ub_pure l)
theorem ub_frz (l : List Int) (ok : Nat → Bool) (st : St) : (ub l).map (fun r => r.map (frzA ok st)) = ub l := by
  simp [ub, frzA, frz, AV.keys]
theorem ub_nil : ub [] = [] := rfl
theorem ub_eq_nil (l : List Int) : (ub l = []) = (l = []) := by simp [ub]

/-- After k swaps. -/
def rv (k : Nat) (l : List Int) : List Int := (List.range l.length).map fun i => if i < k ∨ l.length - 1 - k < i then at0 l (l.length - 1 - i) else at0 l i
theorem rv_len (k : Nat) (l : List Int) : (rv k l).length = l.length := by simp [rv]
theorem rv_zero (l : List Int) : rv 0 l = l := by
  refine List.ext_getElem (by simp [rv]) fun i h1 h2 => ?_
  simp only [rv, List.getElem_map, List.getElem_range]
  rw [if_neg (by omega)]
  simp [at0, h2]
theorem rv_get (k : Nat) (l : List Int) (i : Nat) (h : i < l.length) (h1 : k ≤ i) (h2 : i ≤ l.length - 1 - k) : at0 (rv k l) i = at0 l i := by
  simp only [rv, at0, List.getD, List.getElem?_map, List.getElem?_range h, Option.map_some, Option.getD_some]
  rw [if_neg (by omega)]
theorem rv_step (k : Nat) (l : List Int) (h : 2 * k + 1 < l.length) : ((rv k l).set k (at0 l (l.length - 1 - k))).set (l.length - 1 - k) (at0 l k) = rv (k + 1) l := by
  refine List.ext_getElem (by simp [rv]) fun i h1 h2 => ?_
  have hi : i < l.length := by simpa [rv] using h2
  simp only [List.getElem_set, rv, List.getElem_map, List.getElem_range]
  by_cases e1 : l.length - 1 - k = i
  · subst e1
    rw [if_pos rfl, if_pos (by omega)]
    congr 1; omega
  · rw [if_neg e1]
    by_cases e2 : k = i
    · subst e2
      rw [if_pos rfl, if_pos (by omega)]
    · rw [if_neg e2]
      by_cases e3 : i < k ∨ l.length - 1 - k < i
      · rw [if_pos e3, if_pos (by omega)]
      · rw [if_neg e3, if_neg (by omega)]
theorem rv_end (k : Nat) (l : List Int) (h : l.length ≤ 2 * k + 1) (hk : k ≤ l.length) : rv k l = l.reverse := by
  refine List.ext_getElem (by simp [rv]) fun i h1 h2 => ?_
  have hi : i < l.length := by simpa [rv] using h1
  simp only [rv, List.getElem_map, List.getElem_range, List.getElem_reverse]
  by_cases e : i < k ∨ l.length - 1 - k < i
  · rw [if_pos e]; simp [at0, show l.length - 1 - i < l.length by omega]
  · rw [if_neg e]
    have : l.length - 1 - i = i := by omega
    simp [at0, hi, this]

section
variable {G : Nat → Option (List AV)}

theorem reverse_pb (l : List Int) (hl : l.length ≤ 70368744177664) : PB Tryd.prog G 84 [(1000, .row 1 (ub l))] [.osl 1000 l.length] (.tup []) [(1000, .row 1 (ub l.reverse))] := by
  (refine pb_slices_Reverse_byte_byte (Nat.le_of_ble_eq_true rfl) fun R hG => GO_AR mixed 1000 ?_; subst hG)
  have w1 : IntKind.i64.wrap ((l.length : Int) - 1) = (l.length : Int) - 1 := wrapI (by omega) (by omega)
  simp -implicitDefEqProofs [rc_slices_Reverse_byte_byte, rr_slices_Reverse_byte_byte, ub_len, w1]
  refine AR_loop (fun k : Nat => ⟨[(0, .osl 1000 l.length), (2, .int .i64 k), (3, .int .i64 ((l.length : Int) - 1 - k))], [(1000, .row 1 (ub (rv k l)))]⟩) (fun k => k = 0 ∨ 2 * k ≤ l.length) (fun k => l.length - k) 0
    (Weak.of (by simp [rv_zero]) (by simp [lk, rv_zero])) (.inl rfl) ?_
  intro k hk
  refine GO_AR mixed 1000 ?_
  by_cases h : 2 * k + 1 < l.length
  · have h1 : (k : Int) < (l.length : Int) - 1 - k := by omega
    have h2 : (k : Int) ≤ (l.length : Int) - 1 := by omega
    have e2 : ((l.length : Int) - 1 - k).toNat = l.length - 1 - k := by omega
    have b1 : l.length - 1 - k < l.length := by omega
    have b2 : k < l.length := by omega
    have g1 : at0 (rv k l) k = at0 l k := rv_get k l k (by omega) (by omega) (by omega)
    have g2 : at0 (rv k l) (l.length - 1 - k) = at0 l (l.length - 1 - k) := rv_get k l _ (by omega) (by omega) (by omega)
    have g3 : at0 ((rv k l).set k (at0 l (l.length - 1 - k))) (l.length - 1 - k) = at0 l (l.length - 1 - k) := by
      rw [← g2]
      simp only [at0, List.getD]
      rw [List.getElem?_set_ne (by omega)]
    have w2 : IntKind.i64.wrap ((k : Int) + 1) = ((k + 1 : Nat) : Int) := wrapI (by omega) (by omega)
    have w3 : IntKind.i64.wrap ((l.length : Int) - 1 - k - 1) = (l.length : Int) - 1 - ((k + 1 : Nat) : Int) := by rw [wrapI (by omega) (by omega)]; omega
    simp -implicitDefEqProofs [ub_len, rv_len, h1, h2, e2, b1, b2, ub_at, g1, g2, g3, w2, w3, ub_set, rv_step k l h]
    exact ⟨rfl, k + 1, Weak.of (by simp) (by simp [lk]), .inr (by omega), by show l.length - (k + 1) < l.length - k; omega⟩
  · have h1 : ¬ (k : Int) < (l.length : Int) - 1 - k := by omega
    simp -implicitDefEqProofs [h1]
    refine GO_ret mixed 1000 ?_
    simp -implicitDefEqProofs [FinB, frzSt, newK, frzO, ub_frz, rv_end k l (by omega) (by omega)]
end

/-- The digits of a number, at least so many. -/
def dg (least n : Nat) : List Int := if 0 < n ∨ 0 < least then dg (least - 1) (n / 10) ++ [((48 + n % 10 : Nat) : Int)] else []
termination_by n + least
decreasing_by omega
theorem dg_zero : dg 0 0 = [] := by rw [dg]; simp
theorem dg_len (least n : Nat) : least ≤ (dg least n).length ∧ (dg least n).length ≤ least + n := by
  induction least, n using dg.induct with
  | case1 least n h ih =>
    rw [dg, if_pos h]
    simp only [List.length_append, List.length_cons, List.length_nil]
    omega
  | case2 least n h =>
    rw [dg, if_neg h]
    simp; omega

/-- A number of steps, as it is written. -/
def wnS (bh n : Nat) : ByteArray := strOfNums ((dg (bh + 1) n).take ((dg (bh + 1) n).length - bh)) ++ ⟨#[46]⟩ ++ strOfNums ((dg (bh + 1) n).drop ((dg (bh + 1) n).length - bh))
def sgS (bh : Nat) (n : Int) : ByteArray := if n < 0 then ⟨#[45]⟩ ++ wnS bh (-n).toNat else ⟨#[43]⟩ ++ wnS bh n.toNat

/-- The loop's state. -/
def dcS (u : List AV) (p : List Int × Nat) : St := match p.1 with
  | [] => ⟨[(5, .nils), (1, .int .i64 p.2), (2, .ptr 2 0)], [(2, .box u)]⟩
  | x :: xs => ⟨[(5, .osl 22 (x :: xs).length), (1, .int .i64 p.2), (2, .ptr 2 0)], [(2, .box u), (22, .row 1 (ub (x :: xs)))]⟩

section
variable {G : Nat → Option (List AV)}
theorem wrapU {n : Int} (h0 : 0 ≤ n) (h1 : n ≤ 255) : IntKind.u8.wrap n = n := IntWalk.u8_in _ ⟨h0, h1⟩

theorem decimal_pc (st : Int) (bh n : Nat) (nm : ByteArray) (f : FuncId) (hb : bh ≤ 100) (hn : n ≤ 10000000000) :
    PC Tryd.prog G 63 [.agg [.int .i64 st, .int .i64 bh, .str nm, .func (.func f) [] []], .int .i64 n] (.str (wnS bh n)) := by
  (refine pc_size_unit_decimal (Nat.le_of_ble_eq_true rfl) fun R hG => GO_AR mixed 1000 ?_; subst hG)
  simp -implicitDefEqProofs [rc_size_unit_decimal, rr_size_unit_decimal]
  refine AR_loop (dcS [.int .i64 st, .int .i64 bh, .str nm, .func (.func f) [] []]) (fun p => p.1.length + p.2 ≤ n + bh + 1 ∧ dg (bh + 1 - p.1.length) p.2 ++ p.1.reverse = dg (bh + 1) n) (fun p => p.2 + (bh + 1 - p.1.length)) ([], n)
    (Weak.of (by simp [dcS]) (by simp [dcS, lk])) ⟨by simp; omega, by simp⟩ ?_
  rintro ⟨b, m⟩ ⟨hl, hd⟩
  refine GO_AR mixed 1000 ?_
  simp only at hl hd
  obtain ⟨q, hq⟩ : ∃ q : Int, q = ((48 + m % 10 : Nat) : Int) := ⟨_, rfl⟩
  obtain ⟨m1, hm1⟩ : ∃ m1 : Nat, m1 = m / 10 := ⟨_, rfl⟩
  have w1 : IntKind.i64.wrap (48 + ((m : Int).tmod 10)) = q := by rw [Int.tmod_eq_emod_of_nonneg (by omega), wrapI (by omega) (by omega)]; omega
  have w2 : IntKind.u8.wrap q = q := wrapU (by omega) (by omega)
  have w3 : IntKind.i64.wrap ((m : Int) / 10) = (m1 : Int) := by rw [wrapI (by omega) (by omega)]; omega
  have step : 0 < m ∨ b.length ≤ bh → (b ++ [q]).length + m1 ≤ n + bh + 1 ∧ dg (bh + 1 - (b ++ [q]).length) m1 ++ (b ++ [q]).reverse = dg (bh + 1) n ∧ m1 + (bh + 1 - (b ++ [q]).length) < m + (bh + 1 - b.length) := fun hc => by
    refine ⟨by simp only [List.length_append, List.length_cons, List.length_nil]; omega, ?_, by simp only [List.length_append, List.length_cons, List.length_nil]; omega⟩
    rw [← hd, dg.eq_1 (bh + 1 - b.length) m, if_pos (by omega), ← hq, ← hm1]
    simp only [List.length_append, List.length_cons, List.length_nil, List.reverse_append, List.reverse_cons, List.reverse_nil, List.nil_append, List.singleton_append, List.append_assoc, Nat.sub_sub]
  clear hq hm1
  cases b with
  | nil =>
    have hb0 : (0 : Int) ≤ bh := by omega
    have fin : ∀ (t : List (Nat × AV)), (∀ p ∈ [(5, AV.osl 22 1), (1, .int .i64 m1), (2, .ptr 2 0)], lk t p.1 = some p.2) → Rnd (dcS [.int .i64 st, .int .i64 bh, .str nm, .func (.func f) [] []]) (fun p => p.1.length + p.2 ≤ n + bh + 1 ∧ dg (bh + 1 - p.1.length) p.2 ++ p.1.reverse = dg (bh + 1) n) (fun p => p.2 + (bh + 1 - p.1.length)) ([], m) (RetP Tryd.prog R [] (fun _ _ => True)) .normal ⟨t, [(2, .box [.int .i64 st, .int .i64 bh, .str nm, .func (.func f) [] []]), (22, .row 1 [[.int .u8 q]])]⟩ := fun t ht =>
      ⟨([q], m1), Weak.of (by simp [ub]) ht, ⟨(step (.inr (Nat.zero_le _))).1, (step (.inr (Nat.zero_le _))).2.1⟩, (step (.inr (Nat.zero_le _))).2.2⟩
    by_cases hm : 0 < m
    · simp -implicitDefEqProofs [dcS, hm, w1, w2, w3]
      exact fin _ (by simp [lk])
    · simp -implicitDefEqProofs [dcS, hm, hb0, w1, w2, w3]
      exact fin _ (by simp [lk])
  | cons x xs =>
    have fin : ∀ (t : List (Nat × AV)), 0 < m ∨ (x :: xs).length ≤ bh → (∀ p ∈ [(5, AV.osl 22 (xs.length + 1 + 1)), (1, .int .i64 m1), (2, .ptr 2 0)], lk t p.1 = some p.2) → Rnd (dcS [.int .i64 st, .int .i64 bh, .str nm, .func (.func f) [] []]) (fun p => p.1.length + p.2 ≤ n + bh + 1 ∧ dg (bh + 1 - p.1.length) p.2 ++ p.1.reverse = dg (bh + 1) n) (fun p => p.2 + (bh + 1 - p.1.length)) (x :: xs, m) (RetP Tryd.prog R [] (fun _ _ => True)) .normal ⟨t, [(2, .box [.int .i64 st, .int .i64 bh, .str nm, .func (.func f) [] []]), (22, .row 1 (ub (x :: xs) ++ [[.int .u8 q]]))]⟩ := fun t hc ht =>
      ⟨(x :: (xs ++ [q]), m1), Weak.of (by simp [ub]) (by simpa using ht), ⟨(step hc).1, (step hc).2.1⟩, (step hc).2.2⟩
    have hlen : (ub (x :: xs)).length = xs.length + 1 := by simp [ub]
    have hbd : xs.length + 1 + 1 ≤ 70368744177664 := by simp at hl; omega
    by_cases hm : 0 < m
    · simp -implicitDefEqProofs [dcS, hm, w1, w2, w3, hlen, hbd]
      exact fin _ (.inl hm) (by simp [lk])
    · by_cases hc : xs.length + 1 ≤ bh
      · have hc' : (xs.length : Int) + 1 ≤ bh := by omega
        simp -implicitDefEqProofs [dcS, hm, hc', w1, w2, w3, hlen, hbd]
        exact fin _ (.inr hc) (by simp [lk])
      · have hc' : ¬ (xs.length : Int) + 1 ≤ bh := by omega
        have hd' : (x :: xs).reverse = dg (bh + 1) n := by
          rw [← hd, show bh + 1 - (x :: xs).length = 0 by simp; omega, show m = 0 by omega, dg_zero, List.nil_append]
        simp -implicitDefEqProofs [dcS, hm, hc', hlen]
        refine GO_ret mixed 8 ?_
        simp -implicitDefEqProofs []
        refine CallK.sem (CallSem.byref (r' := .tup []) (reverse_pb (x :: xs) (by simp at hl ⊢; omega)) (fun _ => 22) (by simp) (by simp) (by simp [ub_ren]) (by simp [keptO, ub_kept]) (by simp [keptA, AV.keys, lk]) rfl (by simp [AV.ren]) (by simp [AV.ren]) rfl) ?_
        have hge : bh ≤ xs.length + 1 := by omega
        have w4 : IntKind.i64.wrap ((xs.length : Int) + 1 - bh) = ((xs.length + 1 - bh : Nat) : Int) := by rw [wrapI (by omega) (by omega)]; omega
        have hLl : (x :: xs).reverse.length = xs.length + 1 := by simp
        generalize (x :: xs).reverse = L at *
        simp -implicitDefEqProofs [setsB, ub_ren, ub_len, hLl, w4]
        refine AR_weak (Weak.frz (fun k => k == 22) _) ?_
        refine GO_run mixed 1000 ?_
        have hat : xs.length + 1 - bh ≤ xs.length + 1 := by omega
        have sA : (strOfNums (L.take (xs.length + 1 - bh))).size ≤ xs.length + 1 := by rw [strOfNums_size, List.length_take]; omega
        have sB : (strOfNums (L.drop (xs.length + 1 - bh))).size ≤ xs.length + 1 := by rw [strOfNums_size, List.length_drop]; omega
        have e0 : wnS bh n = strOfNums (L.take (xs.length + 1 - bh)) ++ ⟨#[46]⟩ ++ strOfNums (L.drop (xs.length + 1 - bh)) := by
          unfold wnS
          rw [← hd', hLl]
        have s1 : (strOfNums (L.take (xs.length + 1 - bh))).size + (⟨#[46]⟩ : ByteArray).size ≤ 9223372036854775807 := by
          have : (⟨#[46]⟩ : ByteArray).size = 1 := rfl
          omega
        have s2 : (strOfNums (L.take (xs.length + 1 - bh)) ++ ⟨#[46]⟩).size + (strOfNums (L.drop (xs.length + 1 - bh))).size ≤ 9223372036854775807 := by
          have : (⟨#[46]⟩ : ByteArray).size = 1 := rfl
          rw [ByteArray.size_append]; omega
        have s3 : (strOfNums (L.take (xs.length + 1 - bh))).size + (⟨#[46]⟩ : ByteArray).size + (strOfNums (L.drop (xs.length + 1 - bh))).size ≤ 9223372036854775807 := by
          rw [← ByteArray.size_append]; exact s2
        have tk : L.take (xs.length + 1) = L := List.take_of_length_le (by omega)
        have o1 : ∀ r ∈ ub L, r.length = 1 := by simp [ub]
        have p1 : ∀ r ∈ ub L, ∀ x ∈ r, x.pure = true := by simp [ub, AV.pure]
        simp -implicitDefEqProofs [frzSt, frzA, frzO, frz, AV.keys, ub_pure, ub_len, hLl, ub_one, ub_take, ub_drop, ub_ints, hat, s1, s2, s3, e0, o1, p1, tk]
        rfl

theorem signed_pc (st : Int) (bh : Nat) (n : Int) (nm : ByteArray) (f : FuncId) (hb : bh ≤ 100) (hn : -10000000000 ≤ n ∧ n ≤ 10000000000) :
    PC Tryd.prog G 64 [.agg [.int .i64 st, .int .i64 bh, .str nm, .func (.func f) [] []], .int .i64 n] (.str (sgS bh n)) := by
  have sz : ∀ m, m ≤ 10000000000 → (wnS bh m).size ≤ 30000000000 := fun m hm => by
    have h := dg_len (bh + 1) m
    unfold wnS
    rw [ByteArray.size_append, ByteArray.size_append, strOfNums_size, strOfNums_size, List.length_take, List.length_drop]
    have : (⟨#[46]⟩ : ByteArray).size = 1 := rfl
    omega
  (refine pc_size_unit_signed (Nat.le_of_ble_eq_true rfl) fun R hG => GO_AR mixed 1000 ?_; subst hG)
  by_cases hc : n < 0
  · have w1 : IntKind.i64.wrap (-n) = ((-n).toNat : Int) := by rw [wrapI (by omega) (by omega)]; omega
    have z : (⟨#[45]⟩ : ByteArray).size + (wnS bh (-n).toNat).size ≤ 9223372036854775807 := by
      have := sz (-n).toNat (by omega)
      have : (⟨#[45]⟩ : ByteArray).size = 1 := rfl
      omega
    simp -implicitDefEqProofs [rc_size_unit_signed, rr_size_unit_signed, hc]
    rw [w1]
    (first | refine CallK.of (decimal_pc st bh _ nm f hb (by omega)) (by simp) ?_ | refine CallD.of (decimal_pc st bh _ nm f hb (by omega)) (by simp) ?_)
    simp -implicitDefEqProofs [sgS, hc, z]
  · obtain ⟨m, rfl⟩ : ∃ m : Nat, n = m := ⟨n.toNat, by omega⟩
    have z : (⟨#[43]⟩ : ByteArray).size + (wnS bh m).size ≤ 9223372036854775807 := by
      have := sz m (by omega)
      have : (⟨#[43]⟩ : ByteArray).size = 1 := rfl
      omega
    simp -implicitDefEqProofs [rc_size_unit_signed, rr_size_unit_signed, hc]
    (first | refine CallK.of (decimal_pc st bh m nm f hb (by omega)) (by simp) ?_ | refine CallD.of (decimal_pc st bh m nm f hb (by omega)) (by simp) ?_)
    simp -implicitDefEqProofs [sgS, hc, z]
end
end Go.Proofs.YtikjooemblpnbaaDoor
