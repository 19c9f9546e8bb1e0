/-
  size.Read, of a text that is no size: number and deviation panic.
-/
import Derived.Test.YtikjooemblpnbaaDoorRp
import Derived.Test.YtikjooemblpnbaaDoorWd
namespace Go.Proofs.YtikjooemblpnbaaDoor
open Go.RowKit

section
variable {G : Nat → Option (List AV)}

theorem GO0 {P : Program} {R : Run} {c : RCode} {ks : List KF} {Φ : Exit → St → Prop} {st : St} (h : AR P R c st (RetP P R ks Φ)) : GO P R 0 (.run c) ks Φ st := h
theorem must_pan {P : Program} {G : Nat → Option (List AV)} {st : St} {d : Option Nat} {rs : List ROper} {K : Exit → St → Prop} (h : PPC P G 69 [.bool false] textP) (hk : K (.panic textP) st) : CallK P G st 69 [.bool false] d rs K :=
  CallK.pan h (by simp [snapL, snap, snapF, AV.pure]) hk

set_option maxHeartbeats 1000000 in
theorem number_pp (hg : Gs G) (st : Int) (bh : Nat) (nm : ByteArray) (f : FuncId) (hb : bh ≤ 4) (s : ByteArray) (hs : s.size < 4294967281) (h : numV bh s = none) :
    PPC Tryd.prog G 70 [.agg [.int .i64 st, .int .i64 bh, .str nm, .func (.func f) [] []], .str s] textP := by
  have hcut := cut_pc hg s hs
  unfold numV at h
  split at h
  case isTrue => cases h
  case isFalse hc =>
    generalize cutV s = c at *
    obtain ⟨w, p, is⟩ := c
    simp only at hc
    (refine pp_size_unit_number (Nat.le_of_ble_eq_true rfl) fun R hG => GO_AR mixed 1000 ?_; subst hG)
    simp -implicitDefEqProofs [rc_size_unit_number, rr_size_unit_number]
    (first | refine CallK.of (hcut) (by simp) ?_ | refine CallD.of (hcut) (by simp) ?_)
    cases is
    · simp -implicitDefEqProofs
      refine must_pan must_pp ?_
      simp -implicitDefEqProofs [FinP]
    by_cases h1 : p.size = bh
    case neg =>
      have h1' : ¬ (p.size : Int) = bh := by omega
      simp -implicitDefEqProofs [h1, h1']
      refine must_pan must_pp ?_
      simp -implicitDefEqProofs [FinP]
    subst h1
    simp -implicitDefEqProofs []
    (first | refine CallK.of (inS_pc 1 6 [(w.size : Int)] (by simp)) (by simp) ?_ | refine CallD.of (inS_pc 1 6 [(w.size : Int)] (by simp)) (by simp) ?_)
    by_cases h2 : 1 ≤ w.size ∧ w.size ≤ 6
    case neg =>
      have e1 : ([(w.size : Int)].all fun n => inR n 1 6) = false := by simp [inR]; omega
      rw [e1]
      simp -implicitDefEqProofs []
      refine must_pan must_pp ?_
      simp -implicitDefEqProofs [FinP]
    obtain ⟨h2, h3⟩ := h2
    have e1 : ([(w.size : Int)].all fun n => inR n 1 6) = true := by simp [inR]; omega
    rw [e1]
    have hw0 : 0 < w.size := by omega
    have hhd : w.data.toList.head? = some w[0] := by
      rw [List.head?_eq_getElem?]
      have : 0 < w.data.size := hw0
      simp only [Array.getElem?_toList, ByteArray.getElem_eq_getElem_data, this, Array.getElem?_eq_getElem]
    by_cases e48 : ((w[0].toNat : Nat) : Int) = 48 ∧ ¬ (w.size : Int) = 1
    · obtain ⟨e48, hz⟩ := e48
      simp -implicitDefEqProofs [hw0, e48, hz]
      refine must_pan must_pp ?_
      simp -implicitDefEqProofs [FinP]
    have h4 : w.data.toList.head? ≠ some 48 ∨ w.size = 1 := by
      by_cases q : w.size = 1
      · exact .inr q
      · refine .inl fun e => e48 ⟨?_, by omega⟩
        rw [hhd] at e
        rw [Option.some.inj e]; rfl
    have h5 : ¬ (w.data.toList ++ p.data.toList).all digB = true := fun h5 => hc ⟨rfl, rfl, h2, h3, h4, h5⟩
    have hA : w.size + p.size ≤ 9223372036854775807 := by omega
    have hAs : (w ++ p).size = w.size + p.size := ByteArray.size_append
    have hAd : (w ++ p).data.toList = w.data.toList ++ p.data.toList := by simp [ByteArray.data_append]
    rw [← hAd] at h5
    have hz : ((w[0].toNat : Nat) : Int) = 48 → (w.size : Int) = 1 := fun q => Decidable.byContradiction fun e => e48 ⟨q, e⟩
    clear e48
    rcases Decidable.em (((w[0].toNat : Nat) : Int) = 48) with e48 | e48
    all_goals first | (simp -implicitDefEqProofs [hw0, e48, hz e48]) | (simp -implicitDefEqProofs [hw0, e48])
    all_goals
      (first | refine CallK.of (must_pc) (by simp) ?_ | refine CallD.of (must_pc) (by simp) ?_)
      simp -implicitDefEqProofs [hA]
      generalize w ++ p = A at *
      have hA10 : A.size ≤ 10 := by omega
      refine AR_loop (fun i : Nat => ⟨[(47, .int .i64 i), (46, .int .i64 A.size), (9, .int .i64 (digF (A.data.toList.take i))), (8, .str A)], []⟩) (fun i => i ≤ A.size ∧ ∀ b ∈ A.data.toList.take i, digB b = true) (fun i => A.size - i) 0 (Weak.sub (by simp [lk, keptA, AV.keys, digF]; omega) (by simp)) ⟨Nat.zero_le _, by simp⟩ ?_
      rintro i ⟨hi, hd⟩
      refine GO_AR mixed 1000 ?_
      by_cases hc : i < A.size
      · have hge : A.data.toList[i]'(by simpa using hc) = A[i] := by rw [ByteArray.getElem_eq_getElem_data]; simp
        have htk : A.data.toList.take (i + 1) = A.data.toList.take i ++ [A[i]] := by rw [List.take_succ_eq_append_getElem (by simpa using hc), hge]
        by_cases hb1 : digB A[i] = true
        · have hb2 := of_decide_eq_true hb1
          have c1 : (48 : Int) ≤ (A[i].toNat : Int) := by omega
          have c2 : (A[i].toNat : Int) ≤ 57 := by omega
          have hdb := digF_bd (A.data.toList.take i) hd
          have hp10 : (10 : Int) ^ (A.data.toList.take i).length ≤ 10 ^ 10 := by
            have : (List.take i A.data.toList).length ≤ 10 := by rw [List.length_take]; omega
            exact_mod_cast Nat.pow_le_pow_right (show 0 < 10 by omega) this
          have hsn : digF (A.data.toList.take (i + 1)) = 10 * digF (A.data.toList.take i) + ((A[i].toNat : Int) - 48) := by rw [← digF_snoc, htk]
          have hd1 : ∀ b ∈ A.data.toList.take (i + 1), digB b = true := by
            rw [htk]; intro b hb
            rcases List.mem_append.1 hb with hb | hb
            · exact hd b hb
            · rw [List.mem_singleton.1 hb]; exact hb1
          generalize digF (A.data.toList.take i) = v at *
          have w1 : IntKind.i64.wrap (10 * v) = 10 * v := wrapI (by omega) (by omega)
          have w2 : IntKind.u8.wrap ((A[i].toNat : Int) - 48) = (A[i].toNat : Int) - 48 := wrapU (by omega) (by omega)
          have w3 : IntKind.i64.wrap ((A[i].toNat : Int) - 48) = (A[i].toNat : Int) - 48 := wrapI (by omega) (by omega)
          have w4 : IntKind.i64.wrap (10 * v + ((A[i].toNat : Int) - 48)) = 10 * v + ((A[i].toNat : Int) - 48) := wrapI (by omega) (by omega)
          have w5 : IntKind.i64.wrap ((i : Int) + 1) = ((i + 1 : Nat) : Int) := wrapI (by omega) (by omega)
          simp -implicitDefEqProofs [hc, c1, c2, w1, w2, w3, w4, w5]
          exact ⟨i + 1, Weak.tm (by simp [lk, hsn]), ⟨hc, hd1⟩, by show A.size - (i + 1) < A.size - i; omega⟩
        · have hb2 : ¬ (48 : Int) ≤ (A[i].toNat : Int) ∨ (48 : Int) ≤ (A[i].toNat : Int) ∧ ¬ (A[i].toNat : Int) ≤ 57 := by
            have : ¬ (48 ≤ A[i].toNat ∧ A[i].toNat ≤ 57) := fun q => hb1 (decide_eq_true q)
            omega
          rcases hb2 with c1 | ⟨c1, c2⟩
          · simp -implicitDefEqProofs [hc, c1]
            refine must_pan must_pp ?_
            simp -implicitDefEqProofs []
            refine GO_ret mixed 1000 ?_
            simp -implicitDefEqProofs [FinP]
          · simp -implicitDefEqProofs [hc, c1, c2]
            refine must_pan must_pp ?_
            simp -implicitDefEqProofs []
            refine GO_ret mixed 1000 ?_
            simp -implicitDefEqProofs [FinP]
      · have hall : A.data.toList.take i = A.data.toList := List.take_of_length_le (by have : A.data.toList.length = A.size := rfl; omega)
        rw [hall] at hd
        exact absurd (List.all_eq_true.2 hd) h5

theorem deviation_pp (hg : Gs G) (st : Int) (bh : Nat) (nm : ByteArray) (f : FuncId) (hb : bh ≤ 4) (s : ByteArray) (hs : s.size < 4294967281) (h : devV bh s = none) :
    PPC Tryd.prog G 71 [.agg [.int .i64 st, .int .i64 bh, .str nm, .func (.func f) [] []], .str s] textP := by
  have hx : (s.extract 1 s.size).size < 4294967281 := by rw [ByteArray.size_extract]; omega
  by_cases z : s.size = 0
  · have z1 : (s.size : Int) = 0 := by omega
    (refine pp_size_unit_deviation (Nat.le_of_ble_eq_true rfl) fun R hG => GO_AR mixed 1000 ?_; subst hG)
    simp -implicitDefEqProofs [rc_size_unit_deviation, rr_size_unit_deviation, z, z1]
    refine must_pan must_pp ?_
    simp -implicitDefEqProofs [FinP]
  have h0 : 0 < s.size := by omega
  have h0' : (0 : Int) < s.size := by omega
  have h1 : 1 ≤ s.size := h0
  obtain ⟨b, r, hl⟩ : ∃ b r, s.data.toList = b :: r := by
    cases e : s.data.toList with
    | nil => have : s.size = s.data.toList.length := rfl; rw [this, e] at z; exact absurd rfl z
    | cons b r => exact ⟨b, r, rfl⟩
  have hb0 : s[0] = b := by
    have e : s.data.toList[0]? = some b := by rw [hl]; rfl
    have : 0 < s.data.size := h0
    rw [Array.getElem?_toList, Array.getElem?_eq_getElem this] at e
    rw [ByteArray.getElem_eq_getElem_data]
    exact Option.some.inj e
  simp only [devV, hl] at h
  by_cases e43 : b = 43
  · subst e43
    have hb1 : ((s[0].toNat : Nat) : Int) = 43 := by rw [hb0]; rfl
    simp only [if_true] at h
    refine pp_size_unit_deviation (Nat.le_of_ble_eq_true rfl) fun R hR => ?_
    subst hR
    refine GO_AR mixed 7 ?_
    simp -implicitDefEqProofs [rc_size_unit_deviation, rr_size_unit_deviation, h0, h0', hb1]
    (first | refine CallK.of (must_pc) (by simp) ?_ | refine CallD.of (must_pc) (by simp) ?_)
    simp -implicitDefEqProofs [h0, h0', h1, hb1]
    refine GO0 (AR_regp (ch := textP) [] [] mixed ?_ (by simp) (by simp) (by intro k hk h; simp [lk] at h; omega) ?_)
    · simp -implicitDefEqProofs [h1]
      refine callP.pan (number_pp hg st bh nm f hb _ hx h) (by simp [snapL, snap, snapF, AV.pure]) ?_
      simp -implicitDefEqProofs []
      exact ⟨rfl, rfl⟩
    · refine GO_ret mixed 1000 ?_
      simp -implicitDefEqProofs [FinP]
  · simp only [e43, if_false] at h
    by_cases e45 : b = 45
    · subst e45
      have hb1 : ((s[0].toNat : Nat) : Int) = 45 := by rw [hb0]; rfl
      simp only [if_true] at h
      cases hn : numV bh (s.extract 1 s.size) with
      | none =>
        refine pp_size_unit_deviation (Nat.le_of_ble_eq_true rfl) fun R hR => ?_
        subst hR
        refine GO_AR mixed 7 ?_
        simp -implicitDefEqProofs [rc_size_unit_deviation, rr_size_unit_deviation, h0, h0', hb1]
        (first | refine CallK.of (must_pc) (by simp) ?_ | refine CallD.of (must_pc) (by simp) ?_)
        simp -implicitDefEqProofs [h0, h0', h1, hb1]
        refine GO0 (AR_regp (ch := textP) [] [] mixed ?_ (by simp) (by simp) (by intro k hk h; simp [lk] at h; omega) ?_)
        · simp -implicitDefEqProofs [h1]
          refine callP.pan (number_pp hg st bh nm f hb _ hx hn) (by simp [snapL, snap, snapF, AV.pure]) ?_
          simp -implicitDefEqProofs []
          exact ⟨rfl, rfl⟩
        · refine GO_ret mixed 1000 ?_
          simp -implicitDefEqProofs [FinP]
      | some m =>
        have hm : ¬ 0 < m := by
          intro hm
          rw [hn] at h
          simp [hm] at h
        (refine pp_size_unit_deviation (Nat.le_of_ble_eq_true rfl) fun R hG => GO_AR mixed 1000 ?_; subst hG)
        simp -implicitDefEqProofs [rc_size_unit_deviation, rr_size_unit_deviation, h0, h0', hb1]
        (first | refine CallK.of (must_pc) (by simp) ?_ | refine CallD.of (must_pc) (by simp) ?_)
        simp -implicitDefEqProofs [h0, h0', h1, hb1]
        (first | refine CallK.of (number_pc hg st bh nm f hb _ hx m hn) (by simp) ?_ | refine CallD.of (number_pc hg st bh nm f hb _ hx m hn) (by simp) ?_)
        simp -implicitDefEqProofs [h0, h0', hb1, hm]
        refine ⟨rfl, ?_⟩
        refine must_pan must_pp ?_
        simp -implicitDefEqProofs [FinP]
    · have c1 : ¬ ((s[0].toNat : Nat) : Int) = 43 := fun e => e43 (by rw [← hb0]; exact UInt8.toNat.inj (by show s[0].toNat = 43; omega))
      have c2 : ¬ ((s[0].toNat : Nat) : Int) = 45 := fun e => e45 (by rw [← hb0]; exact UInt8.toNat.inj (by show s[0].toNat = 45; omega))
      (refine pp_size_unit_deviation (Nat.le_of_ble_eq_true rfl) fun R hG => GO_AR mixed 1000 ?_; subst hG)
      simp -implicitDefEqProofs [rc_size_unit_deviation, rr_size_unit_deviation, h0, h0', c1, c2]
      refine must_pan must_pp ?_
      simp -implicitDefEqProofs [FinP]
end

/-- What Read leaves that panics. -/
def rdT : List (Nat × AV) := [(4, .ptr 1004 0), (3, .ptr 1003 0), (2, .ptr 1002 0)]
def rdO (d : Dm) (u : Int) : List (Nat × AObj) := [(1002, .box [.int .i64 d.n, .int .i64 d.l, .int .i64 d.u]), (1003, .box [.int .u8 u]), (1004, .box [.int .i64 0])]

def rdPan : Exit → St → Prop := fun e st => e = .panic textP ∧ ∃ (d : Dm) (u : Int), Weak st ⟨rdT, rdO d u⟩
theorem rd_big {d : Dm} {u : Int} {a b c x : AObj} : ∀ k, 1000 ≤ k → (lk [(1002, a), (1003, b), (1004, c), (7, x)] k).isSome = true → (lk (rdO d u) k).isSome = true := by
  intro k hk h
  by_cases e1 : 1002 = k
  · subst e1; rfl
  by_cases e2 : 1003 = k
  · subst e2; rfl
  by_cases e3 : 1004 = k
  · subst e3; rfl
  by_cases e4 : 7 = k
  · omega
  · simp [lk, e1, e2, e3, e4] at h

section
variable {R : Run} {Φ : Exit → St → Prop} {m : Nat} {w0 w1 w2 w3 : ByteArray} {d : Dm} {u : Int}

theorem fail1_num (hg : Gs R.G) (hn : numV 3 w0 = none) (l0 : w0.size < 4294967281) (l1 : w1.size < 4294967281) (l2 : w2.size < 4294967281) (h : Φ (.panic textP) ⟨rdT, rdO d u⟩) : ARn Tryd.prog R rc_Read_rest_loop Φ (m + 1) (rdL [[.str w0], [.str w1], [.str w2], [.str nameMm]] 1 d u) := by
  have e : (nameMm.toList == nameMm.toList) = true := by simp
  unfold ARn
  refine GO_AR mixed 20 ?_
  simp -implicitDefEqProofs [rdL, unitsT, rc_Read_rest_loop, wr2, e]
  refine ⟨rfl, ?_⟩
  refine GO0 (AR_regp (ch := textP) rdT (rdO d u) mixed ?_ (by simp [rdT, rdO, lk, keptA, AV.keys]) (by simp [rdO, lk, keptO, keptA, AV.keys]) rd_big ?_)
  · simp -implicitDefEqProofs []
    refine callP.pan (number_pp hg 100 3 nameMm 143 (by omega) w0 l0 hn) (by simp [snapL, snap, snapF, AV.pure]) ?_
    simp -implicitDefEqProofs []
    exact ⟨rfl, rfl⟩
  · refine GO_ret mixed 1000 ?_
    simp -implicitDefEqProofs []
    exact h
theorem fail1_dev (hg : Gs R.G) {n : Int} (hn : numV 3 w0 = some n) (hd : devV 3 w1 = none) (l0 : w0.size < 4294967281) (l1 : w1.size < 4294967281) (l2 : w2.size < 4294967281) (h : Φ (.panic textP) ⟨rdT, rdO d u⟩) : ARn Tryd.prog R rc_Read_rest_loop Φ (m + 1) (rdL [[.str w0], [.str w1], [.str w2], [.str nameMm]] 1 d u) := by
  have e : (nameMm.toList == nameMm.toList) = true := by simp
  have n0 := numV_bd (by omega) hn
  have v1 : IntKind.i64.wrap (n * 100) = n * 100 := wrapI (by omega) (by omega)
  unfold ARn
  refine GO_AR mixed 23 ?_
  simp -implicitDefEqProofs [rdL, unitsT, rc_Read_rest_loop, wr2, e]
  refine ⟨rfl, ?_⟩
  (first | refine CallK.of (number_pc hg 100 3 nameMm 143 (by omega) w0 l0 n hn) (by simp) ?_ | refine CallD.of (number_pc hg 100 3 nameMm 143 (by omega) w0 l0 n hn) (by simp) ?_)
  simp -implicitDefEqProofs []
  refine ⟨rfl, ?_⟩
  refine GO0 (AR_regp (ch := textP) rdT (rdO d u) mixed ?_ (by simp [rdT, rdO, lk, keptA, AV.keys]) (by simp [rdO, lk, keptO, keptA, AV.keys]) rd_big ?_)
  · simp -implicitDefEqProofs [v1]
    refine callP.pan (deviation_pp hg 100 3 nameMm 143 (by omega) w1 l1 hd) (by simp [snapL, snap, snapF, AV.pure]) ?_
    simp -implicitDefEqProofs []
    exact ⟨rfl, rfl⟩
  · refine GO_ret mixed 1000 ?_
    simp -implicitDefEqProofs []
    exact h
theorem fail1_dew (hg : Gs R.G) {n a : Int} (hn : numV 3 w0 = some n) (ha : devV 3 w1 = some a) (hd : devV 3 w2 = none) (l0 : w0.size < 4294967281) (l1 : w1.size < 4294967281) (l2 : w2.size < 4294967281) (h : Φ (.panic textP) ⟨rdT, rdO d u⟩) : ARn Tryd.prog R rc_Read_rest_loop Φ (m + 1) (rdL [[.str w0], [.str w1], [.str w2], [.str nameMm]] 1 d u) := by
  have e : (nameMm.toList == nameMm.toList) = true := by simp
  have n0 := numV_bd (by omega) hn
  have v1 : IntKind.i64.wrap (n * 100) = n * 100 := wrapI (by omega) (by omega)
  have a0 := devV_bd (by omega) ha
  have v2 : IntKind.i64.wrap (n + a) = n + a := wrapI (by omega) (by omega)
  have v3 : IntKind.i64.wrap ((n + a) * 100) = (n + a) * 100 := wrapI (by omega) (by omega)
  unfold ARn
  refine GO_AR mixed 23 ?_
  simp -implicitDefEqProofs [rdL, unitsT, rc_Read_rest_loop, wr2, e]
  refine ⟨rfl, ?_⟩
  (first | refine CallK.of (number_pc hg 100 3 nameMm 143 (by omega) w0 l0 n hn) (by simp) ?_ | refine CallD.of (number_pc hg 100 3 nameMm 143 (by omega) w0 l0 n hn) (by simp) ?_)
  simp -implicitDefEqProofs []
  refine ⟨rfl, ?_⟩
  refine GO0 (AR_regp (ch := textP) rdT (rdO d u) mixed ?_ (by simp [rdT, rdO, lk, keptA, AV.keys]) (by simp [rdO, lk, keptO, keptA, AV.keys]) rd_big ?_)
  · simp -implicitDefEqProofs [v1]
    refine callP.of (deviation_pc hg 100 3 nameMm 143 (by omega) w1 l1 a ha) (by simp [AV.flat]) (by simp [snapL, snap, snapF, AV.pure]) ?_
    simp -implicitDefEqProofs [v1, v2, v3]
    refine callP.pan (deviation_pp hg 100 3 nameMm 143 (by omega) w2 l2 hd) (by simp [snapL, snap, snapF, AV.pure]) ?_
    simp -implicitDefEqProofs []
    exact ⟨rfl, rfl⟩
  · refine GO_ret mixed 1000 ?_
    simp -implicitDefEqProofs []
    exact h
theorem fail2_num (hg : Gs R.G) (hn : numV 4 w0 = none) (l0 : w0.size < 4294967281) (l1 : w1.size < 4294967281) (l2 : w2.size < 4294967281) (h : Φ (.panic textP) ⟨rdT, rdO d u⟩) : ARn Tryd.prog R rc_Read_rest_loop Φ (m + 1) (rdL [[.str w0], [.str w1], [.str w2], [.str nameIn]] 2 d u) := by
  have e : (nameIn.toList == nameIn.toList) = true := by simp
  unfold ARn
  refine GO_AR mixed 20 ?_
  simp -implicitDefEqProofs [rdL, unitsT, rc_Read_rest_loop, wr3, e]
  refine ⟨rfl, ?_⟩
  refine GO0 (AR_regp (ch := textP) rdT (rdO d u) mixed ?_ (by simp [rdT, rdO, lk, keptA, AV.keys]) (by simp [rdO, lk, keptO, keptA, AV.keys]) rd_big ?_)
  · simp -implicitDefEqProofs []
    refine callP.pan (number_pp hg 254 4 nameIn 143 (by omega) w0 l0 hn) (by simp [snapL, snap, snapF, AV.pure]) ?_
    simp -implicitDefEqProofs []
    exact ⟨rfl, rfl⟩
  · refine GO_ret mixed 1000 ?_
    simp -implicitDefEqProofs []
    exact h
theorem fail2_dev (hg : Gs R.G) {n : Int} (hn : numV 4 w0 = some n) (hd : devV 4 w1 = none) (l0 : w0.size < 4294967281) (l1 : w1.size < 4294967281) (l2 : w2.size < 4294967281) (h : Φ (.panic textP) ⟨rdT, rdO d u⟩) : ARn Tryd.prog R rc_Read_rest_loop Φ (m + 1) (rdL [[.str w0], [.str w1], [.str w2], [.str nameIn]] 2 d u) := by
  have e : (nameIn.toList == nameIn.toList) = true := by simp
  have n0 := numV_bd (by omega) hn
  have v1 : IntKind.i64.wrap (n * 254) = n * 254 := wrapI (by omega) (by omega)
  unfold ARn
  refine GO_AR mixed 23 ?_
  simp -implicitDefEqProofs [rdL, unitsT, rc_Read_rest_loop, wr3, e]
  refine ⟨rfl, ?_⟩
  (first | refine CallK.of (number_pc hg 254 4 nameIn 143 (by omega) w0 l0 n hn) (by simp) ?_ | refine CallD.of (number_pc hg 254 4 nameIn 143 (by omega) w0 l0 n hn) (by simp) ?_)
  simp -implicitDefEqProofs []
  refine ⟨rfl, ?_⟩
  refine GO0 (AR_regp (ch := textP) rdT (rdO d u) mixed ?_ (by simp [rdT, rdO, lk, keptA, AV.keys]) (by simp [rdO, lk, keptO, keptA, AV.keys]) rd_big ?_)
  · simp -implicitDefEqProofs [v1]
    refine callP.pan (deviation_pp hg 254 4 nameIn 143 (by omega) w1 l1 hd) (by simp [snapL, snap, snapF, AV.pure]) ?_
    simp -implicitDefEqProofs []
    exact ⟨rfl, rfl⟩
  · refine GO_ret mixed 1000 ?_
    simp -implicitDefEqProofs []
    exact h
theorem fail2_dew (hg : Gs R.G) {n a : Int} (hn : numV 4 w0 = some n) (ha : devV 4 w1 = some a) (hd : devV 4 w2 = none) (l0 : w0.size < 4294967281) (l1 : w1.size < 4294967281) (l2 : w2.size < 4294967281) (h : Φ (.panic textP) ⟨rdT, rdO d u⟩) : ARn Tryd.prog R rc_Read_rest_loop Φ (m + 1) (rdL [[.str w0], [.str w1], [.str w2], [.str nameIn]] 2 d u) := by
  have e : (nameIn.toList == nameIn.toList) = true := by simp
  have n0 := numV_bd (by omega) hn
  have v1 : IntKind.i64.wrap (n * 254) = n * 254 := wrapI (by omega) (by omega)
  have a0 := devV_bd (by omega) ha
  have v2 : IntKind.i64.wrap (n + a) = n + a := wrapI (by omega) (by omega)
  have v3 : IntKind.i64.wrap ((n + a) * 254) = (n + a) * 254 := wrapI (by omega) (by omega)
  unfold ARn
  refine GO_AR mixed 23 ?_
  simp -implicitDefEqProofs [rdL, unitsT, rc_Read_rest_loop, wr3, e]
  refine ⟨rfl, ?_⟩
  (first | refine CallK.of (number_pc hg 254 4 nameIn 143 (by omega) w0 l0 n hn) (by simp) ?_ | refine CallD.of (number_pc hg 254 4 nameIn 143 (by omega) w0 l0 n hn) (by simp) ?_)
  simp -implicitDefEqProofs []
  refine ⟨rfl, ?_⟩
  refine GO0 (AR_regp (ch := textP) rdT (rdO d u) mixed ?_ (by simp [rdT, rdO, lk, keptA, AV.keys]) (by simp [rdO, lk, keptO, keptA, AV.keys]) rd_big ?_)
  · simp -implicitDefEqProofs [v1]
    refine callP.of (deviation_pc hg 254 4 nameIn 143 (by omega) w1 l1 a ha) (by simp [AV.flat]) (by simp [snapL, snap, snapF, AV.pure]) ?_
    simp -implicitDefEqProofs [v1, v2, v3]
    refine callP.pan (deviation_pp hg 254 4 nameIn 143 (by omega) w2 l2 hd) (by simp [snapL, snap, snapF, AV.pure]) ?_
    simp -implicitDefEqProofs []
    exact ⟨rfl, rfl⟩
  · refine GO_ret mixed 1000 ?_
    simp -implicitDefEqProofs []
    exact h
end

/-- What a text reads in a unit, and what it reads. -/
def rdU (k : Int) (w0 w1 w2 : ByteArray) : Option (Dm × Int) := match numV (bhV k) w0, devV (bhV k) w1, devV (bhV k) w2 with
  | some n, some a, some b => if vd (rdD k n a b) = true then some (rdD k n a b, k) else none
  | _, _, _ => none
def readV (s : ByteArray) : Option (Dm × Int) := match wordsV s with
  | [w0, w1, w2, w3] => if w3 = nameMm then rdU 1 w0 w1 w2 else if w3 = nameIn then rdU 2 w0 w1 w2 else none
  | _ => none

theorem toList_ne {a b : ByteArray} (h : ¬ b = a) : (a.toList == b.toList) = false := by
  rw [← Bool.not_eq_true, beq_iff_eq]
  intro e
  apply h
  rw [ByteArray.toList_eq, ByteArray.toList_eq] at e
  cases a; cases b
  simp only [ByteArray.mk.injEq] at e ⊢
  exact (Array.toList_inj.1 e).symm

theorem rd_weak {t : List (Nat × AV)} {d : Dm} {u : Int} {r : List (Nat × AObj)} (h4 : lk t 4 = some (.ptr 1004 0)) (h3 : lk t 3 = some (.ptr 1003 0)) (h2 : lk t 2 = some (.ptr 1002 0)) (hr : ∀ p ∈ r, p.1 < 1000) : Weak ⟨t, rdO d u ++ r⟩ ⟨rdT, rdO d u⟩ := by
  refine Weak.sub ?_ ?_ ?_
  · simp [rdT, h2, h3, h4, keptA, AV.keys, rdO, lk]
  · simp [rdO, lk, keptO, keptA, AV.keys]
  · intro p hp hb
    rcases List.mem_append.1 hp with hp | hp
    · rw [lk_isSome]; exact List.mem_map.2 ⟨p, hp, rfl⟩
    · have := hr p hp; omega

theorem read_arp (R : Run) (hg : Gs R.G) (s : ByteArray) (hs : s.size < 4294967281) (h : readV s = none) : AR Tryd.prog R rc_Read_rest (rdS1 s) rdPan := by
  have hle : ∀ x ∈ wordsV s, x.size < 4294967281 := fun x hx => Nat.lt_of_le_of_lt (splitB_le _ _ _ _ hx) hs
  have hU := hg.1
  refine GO_AR mixed 1000 ?_
  simp -implicitDefEqProofs [rc_Read_rest, rdS1, rdObjs]
  (first | refine CallK.of (split_pc hg s hs) (by simp) ?_ | refine CallD.of (split_pc hg s hs) (by simp) ?_)
  by_cases h4 : (wordsV s).length = 4
  case neg =>
    have h4' : ¬ ((wordsV s).length : Int) = 4 := by omega
    simp -implicitDefEqProofs [strRows, h4, h4']
    refine must_pan must_pp ?_
    simp -implicitDefEqProofs []
    exact ⟨rfl, ⟨0, 0, 0⟩, 0, rd_weak (d := ⟨0, 0, 0⟩) (u := 0) (r := []) rfl rfl rfl (by simp)⟩
  obtain ⟨w0, w1, w2, w3, hw⟩ : ∃ w0 w1 w2 w3, wordsV s = [w0, w1, w2, w3] := by
    match e : wordsV s, h4 with
    | [a, b, c, d], _ => exact ⟨a, b, c, d, rfl⟩
  rw [hw] at hle ⊢
  simp only [readV, hw] at h
  have l0 := hle w0 (by simp)
  have l1 := hle w1 (by simp)
  have l2 := hle w2 (by simp)
  simp -implicitDefEqProofs [strRows]
  (first | refine CallK.of (must_pc) (by simp) ?_ | refine CallD.of (must_pc) (by simp) ?_)
  simp -implicitDefEqProofs [hU, unitsT]
  refine AR_rounds 4 ?_
  refine ARn_weak (st' := rdL [[.str w0], [.str w1], [.str w2], [.str w3]] 0 ⟨0, 0, 0⟩ 0) (Weak.sub (by simp [rdL, lk, keptA, AV.keys, unitsT]) (by simp [rdL, lk, keptO, keptA, AV.keys]) (by simp [rdL, lk])) ?_
  refine round0 ?_
  have fin : ∀ (d : Dm) (u : Int), rdPan (.panic textP) ⟨rdT, rdO d u⟩ := fun d u => ⟨rfl, d, u, fun _ _ _ h => h⟩
  by_cases q1 : w3 = nameMm
  · subst q1
    simp only [if_true] at h
    simp only [rdU] at h
    cases hn : numV (bhV 1) w0 with
    | none => exact fail1_num hg hn l0 l1 l2 (fin _ _)
    | some n =>
      cases ha : devV (bhV 1) w1 with
      | none => exact fail1_dev hg hn ha l0 l1 l2 (fin _ _)
      | some a =>
        cases hb : devV (bhV 1) w2 with
        | none => exact fail1_dew hg hn ha hb l0 l1 l2 (fin _ _)
        | some b =>
          cases hv : vd (rdD 1 n a b)
          case true => simp [hn, ha, hb, hv] at h
          refine hit1 hg hn ha hb l0 l1 l2 (round2 in_mm (round3 ?_))
          refine GO_ret mixed 1000 ?_
          simp -implicitDefEqProofs [rdL]
          (first | refine CallK.of (checkS_pc (rdD 1 n a b)) (by simp) ?_ | refine CallD.of (checkS_pc (rdD 1 n a b)) (by simp) ?_)
          simp -implicitDefEqProofs [chk, hv]
          refine must_pan must_pp ?_
          simp -implicitDefEqProofs []
          exact ⟨rfl, rdD 1 n a b, 1, rd_weak (d := rdD 1 n a b) (u := 1) (r := []) rfl rfl rfl (by simp)⟩
  · simp only [q1, if_false] at h
    have e1 := toList_ne q1
    refine round1 e1 ?_
    by_cases q2 : w3 = nameIn
    · subst q2
      simp only [if_true] at h
      simp only [rdU] at h
      cases hn : numV (bhV 2) w0 with
      | none => exact fail2_num hg hn l0 l1 l2 (fin _ _)
      | some n =>
        cases ha : devV (bhV 2) w1 with
        | none => exact fail2_dev hg hn ha l0 l1 l2 (fin _ _)
        | some a =>
          cases hb : devV (bhV 2) w2 with
          | none => exact fail2_dew hg hn ha hb l0 l1 l2 (fin _ _)
          | some b =>
            cases hv : vd (rdD 2 n a b)
            case true => simp [hn, ha, hb, hv] at h
            refine hit2 hg hn ha hb l0 l1 l2 (round3 ?_)
            refine GO_ret mixed 1000 ?_
            simp -implicitDefEqProofs [rdL]
            (first | refine CallK.of (checkS_pc (rdD 2 n a b)) (by simp) ?_ | refine CallD.of (checkS_pc (rdD 2 n a b)) (by simp) ?_)
            simp -implicitDefEqProofs [chk, hv]
            refine must_pan must_pp ?_
            simp -implicitDefEqProofs []
            exact ⟨rfl, rdD 2 n a b, 2, rd_weak (d := rdD 2 n a b) (u := 2) (r := []) rfl rfl rfl (by simp)⟩
    · refine round2 (toList_ne q2) (round3 ?_)
      refine GO_ret mixed 1000 ?_
      simp -implicitDefEqProofs [rdL]
      refine must_pan must_pp ?_
      simp -implicitDefEqProofs []
      exact ⟨rfl, ⟨0, 0, 0⟩, 0, rd_weak (d := ⟨0, 0, 0⟩) (u := 0) (r := []) rfl rfl rfl (by simp)⟩
end Go.Proofs.YtikjooemblpnbaaDoor
