/-
  What Convert and Share of package size compute, by the abstract machine (Convert from the walk by hand).
-/
import Derived.Test.YtikjooemblpnbaaDoorOc
import Derived.Test.YtikjooemblpnbaaDoorSzN
namespace Go.Proofs.YtikjooemblpnbaaDoor
open Go.RowKit

section
variable {M : Nat → Prop} {W : World}
theorem PV.int_inv {k : IntKind} {n : Int} {v : Value} (h : PV M W (.int k n) v) : v = .int k n := by cases h; rfl
theorem PV.str_inv {s : ByteArray} {v : Value} (h : PV M W (.str s) v) : v = .string s := by cases h; rfl
theorem PV.nilf_inv {v : Value} (h : PV M W .nilf v) : v = .nilFunc := by cases h; rfl
theorem PV.fn_inv {fn : Fn} {v : Value} (h : PV M W (.func fn [] []) v) : v = .func fn #[] #[] := by
  cases h with
  | func _ _ _ us vs h1 h2 =>
    rw [Array.eq_empty_of_size_eq_zero h1, Array.eq_empty_of_size_eq_zero h2]
theorem PV.agg3_inv {k0 k1 k2 : IntKind} {a b c : Int} {v : Value} (h : PV M W (.agg [.int k0 a, .int k1 b, .int k2 c]) v) : v = .agg #[.int k0 a, .int k1 b, .int k2 c] := by
  cases h with
  | agg _ us h1 hx =>
    congr 1
    obtain ⟨l⟩ := us
    match l, h1, hx with
    | [x0, x1, x2], _, hx =>
      rw [(hx 0 _ x0 rfl rfl).int_inv, (hx 1 _ x1 rfl rfl).int_inv, (hx 2 _ x2 rfl rfl).int_inv]
theorem PV.agg3 {k0 k1 k2 : IntKind} (a b c : Int) : PV M W (.agg [.int k0 a, .int k1 b, .int k2 c]) (.agg #[.int k0 a, .int k1 b, .int k2 c]) := by
  refine .agg _ _ rfl fun i x u hx hu => ?_
  match i, hx, hu with
  | 0, hx, hu => cases hx; cases hu; exact .int _ _
  | 1, hx, hu => cases hx; cases hu; exact .int _ _
  | 2, hx, hu => cases hx; cases hu; exact .int _ _
theorem PV.agg2 {k0 k1 : IntKind} (a b : Int) : PV M W (.agg [.int k0 a, .int k1 b]) (.agg #[.int k0 a, .int k1 b]) := by
  refine .agg _ _ rfl fun i x u hx hu => ?_
  match i, hx, hu with
  | 0, hx, hu => cases hx; cases hu; exact .int _ _
  | 1, hx, hu => cases hx; cases hu; exact .int _ _
theorem PV.tup2 {x y : AV} {u v : Value} (h1 : PV M W x u) (h2 : PV M W y v) : PV M W (.tup [x, y]) (.tuple #[u, v]) := by
  refine .tup _ _ rfl fun i x u hx hu => ?_
  match i, hx, hu with
  | 0, hx, hu => cases hx; cases hu; exact h1
  | 1, hx, hu => cases hx; cases hu; exact h2

theorem Units.of_gr {G : Nat → Option (List AV)} (hU : G 0 = some unitsT) (h : GR G M W) : Units W := by
  have h := h _ _ hU
  generalize hp : (Value.pointer (some ⟨0, 0, none⟩)) = p at h
  cases h with
  | vptr _ _ b o f hb hM hc hr =>
    simp only [Value.pointer.injEq, Option.some.injEq, Addr.mk.injEq, Nat.add_zero] at hp
    obtain ⟨rfl, rfl, -⟩ := hp
    refine ⟨hb, fun i hi => ?_⟩
    have hc := hc i (by simpa [unitsT] using hi)
    simp only [Nat.zero_add] at hc
    rw [hc]
    have hr := hr i
    match i, hi, hr with
    | 0, _, hr => rw [(hr _ rfl).int_inv]; rfl
    | 1, _, hr => rw [(hr _ rfl).int_inv]; rfl
    | 2, _, hr => rw [(hr _ rfl).str_inv]; rfl
    | 3, _, hr => rw [(hr _ rfl).nilf_inv]; rfl
    | 4, _, hr => rw [(hr _ rfl).int_inv]; rfl
    | 5, _, hr => rw [(hr _ rfl).int_inv]; rfl
    | 6, _, hr => rw [(hr _ rfl).str_inv]; rfl
    | 7, _, hr => rw [(hr _ rfl).fn_inv]; rfl
    | 8, _, hr => rw [(hr _ rfl).int_inv]; rfl
    | 9, _, hr => rw [(hr _ rfl).int_inv]; rfl
    | 10, _, hr => rw [(hr _ rfl).str_inv]; rfl
    | 11, _, hr => rw [(hr _ rfl).fn_inv]; rfl
end

section
variable {G : Nat → Option (List AV)}
theorem conv_pc (hU : G 0 = some unitsT) (d : Dm) (k : Int) (h0 : 0 ≤ k) (h1 : k ≤ 255) :
    PC Tryd.prog G 16 [.agg [.int .i64 d.n, .int .i64 d.l, .int .i64 d.u], .int .u8 k] (.tup [.agg [.int .i64 (conv d k).1.n, .int .i64 (conv d k).1.l, .int .i64 (conv d k).1.u], .int .i64 (conv d k).2]) := by
  refine ⟨by kernel_rfl, fun M W vs hM hG hs hv => ?_⟩
  obtain ⟨l⟩ := vs
  match l, hs, hv with
  | [x0, x1], _, hv =>
    rw [(hv 0 _ x0 rfl rfl).agg3_inv, (hv 1 _ x1 rfl rfl).int_inv]
    refine (convS_any d k W (Units.of_gr hU hG) h0 h1).mono ?_
    rintro e w ⟨rfl, he⟩
    exact ⟨_, rfl, .tup2 (.agg3 _ _ _) (.int _ _), he⟩

theorem shareS_pc (hU : G 0 = some unitsT) (n lo hi k : Int) (k0 : 0 ≤ k) (k1 : k ≤ 255) : PC Tryd.prog G 28 [.int .i64 n, .agg [.int .i64 lo, .int .i64 hi], .int .u8 k]
    (.tup [(shareV n lo hi k).1.av, (shareV n lo hi k).2.1.av, .int .i64 (shareV n lo hi k).2.2]) := by
  (refine pc_size_Share (Nat.le_of_ble_eq_true rfl) fun R hG => GO_AR mixed 1000 ?_; subst hG)
  simp -implicitDefEqProofs [rc_size_Share, rr_size_Share, Dm.av]
  (first | refine CallK.of (inS_pc 0 1000000000 [n] (by simp)) (by simp) ?_ | refine CallD.of (inS_pc 0 1000000000 [n] (by simp)) (by simp) ?_)
  have hin : ([n].all fun n => inR n 0 1000000000) = inR n 0 1000000000 := by simp
  rw [hin]
  have hb := stp_bd k
  cases h1 : inR n 0 1000000000
  · simp -implicitDefEqProofs [shareV, h1, Dm.zero]
  · simp -implicitDefEqProofs
    (first | refine CallK.of (wantedS_pc _ _) (by simp) ?_ | refine CallD.of (wantedS_pc _ _) (by simp) ?_)
    cases h2 : wantedB lo hi
    · simp -implicitDefEqProofs [shareV, h2, Dm.zero]
    · obtain ⟨y0, y1, y2, y3, y4⟩ := of_decide_eq_true h2
      obtain ⟨x0, x1⟩ := of_decide_eq_true h1
      simp -implicitDefEqProofs [h2]
      (first | refine CallK.of (of_pc hU k k0 k1) (by simp) ?_ | refine CallD.of (of_pc hU k k0 k1) (by simp) ?_)
      by_cases h3 : stp k = 0
      · have hk1 : ¬ k = 1 := by rintro rfl; simp [stp] at h3
        have hk2 : ¬ k = 2 := by rintro rfl; simp [stp] at h3
        simp -implicitDefEqProofs [shareV, h1, h2, h3, Dm.zero, unitCs, hk1, hk2]
      · have hs : k = 1 ∧ stp k = 100 ∨ k = 2 ∧ stp k = 254 := by
          unfold stp at h3 ⊢
          by_cases e1 : k = 1
          · simp [e1]
          · by_cases e2 : k = 2
            · simp [e2]
            · simp [e1, e2] at h3
        have s0 : 1 ≤ stp k := by omega
        obtain ⟨bh, nm, hC⟩ : ∃ bh nm, unitCs k = [.int .i64 (stp k), .int .i64 bh, .str nm, .func (.func 143) [] []] := by
          rcases hs with ⟨rfl, -⟩ | ⟨rfl, -⟩
          · exact ⟨_, _, rfl⟩
          · exact ⟨_, _, rfl⟩
        have hex : ∀ G, PC Tryd.prog G 60 [.agg (unitCs k), .vsl ([n].map ics)] (.bool ([n].all fun n => decide (n % stp k = 0))) := fun G => exactS_pc (stp k) k hs [n] (by simp) (by simpa using x0)
        rw [hC] at hex
        have w1 : IntKind.i64.wrap (hi - lo) = hi - lo := wrapI (by omega) (by omega)
        have q1 : (hi - lo).tdiv 2 = (hi - lo) / 2 := Int.tdiv_eq_ediv_of_nonneg (by omega)
        have w2 : IntKind.i64.wrap ((hi - lo) / 2) = (hi - lo) / 2 := wrapI (by omega) (by omega)
        have p1 : 0 ≤ (hi - lo) / 2 / stp k := Int.ediv_nonneg (by omega) (by omega)
        obtain ⟨a0, a1⟩ := dm_bd ((hi - lo) / 2) (stp k) s0
        have p3 : 0 ≤ (hi - lo) / 2 / stp k * stp k := Int.mul_nonneg p1 (by omega)
        have w5 : IntKind.i64.wrap (n + (hi - lo) / 2 / stp k * stp k) = n + (hi - lo) / 2 / stp k * stp k := wrapI (by omega) (by omega)
        have hu : (shareHole n lo hi (stp k)).u = n + (hi - lo) / 2 / stp k * stp k := rfl
        simp -implicitDefEqProofs [h3, hC]
        (first | refine CallK.of (hex _) (by simp) ?_ | refine CallD.of (hex _) (by simp) ?_)
        by_cases h4 : n % stp k = 0
        · simp -implicitDefEqProofs [h4, w1, q1, w2]
          (first | refine CallK.of (rounded_pc ((hi - lo) / 2) (stp k) (by omega) (by omega) s0 (by omega)) (by simp) ?_ | refine CallD.of (rounded_pc ((hi - lo) / 2) (stp k) (by omega) (by omega) s0 (by omega)) (by simp) ?_)
          by_cases h5 : n + (hi - lo) / 2 / stp k * stp k ≤ 1000000000
          · have h5' : ¬ 1000000000 < n + (hi - lo) / 2 / stp k * stp k := by omega
            have hvh : vd (shareHole n lo hi (stp k)) = true := decide_eq_true ⟨x0, x1, x0, by rw [hu]; show n ≤ _; omega, by rw [hu]; omega⟩
            have hR : roomV (shareHole n lo hi (stp k)) lo hi = if (roomD (shareHole n lo hi (stp k)) lo hi).l ≤ (roomD (shareHole n lo hi (stp k)) lo hi).u then (roomD (shareHole n lo hi (stp k)) lo hi, 0) else (Dm.zero, 6) := by simp only [roomV, hvh, h2, if_true]
            simp -implicitDefEqProofs [w5, h5']
            (first | refine CallK.of (RoomS_pc (shareHole n lo hi (stp k)) lo hi) (by simp) ?_ | refine CallD.of (RoomS_pc (shareHole n lo hi (stp k)) lo hi) (by simp) ?_)
            rw [hR]
            generalize hd : roomD (shareHole n lo hi (stp k)) lo hi = d
            by_cases h6 : d.l ≤ d.u
            · have hv : vd d = true := by
                subst hd
                exact decide_eq_true ⟨x0, x1, Int.le_max_left .., h6, Int.min_le_left ..⟩
              have hC2 : conv d k = if agnOk d (stp k) = true then (agn d (stp k), 0) else (Dm.zero, 6) := by simp only [conv, hv, h3, if_true, if_false]
              simp -implicitDefEqProofs [h6]
              (first | refine CallK.of (conv_pc hU d k k0 k1) (by simp) ?_ | refine CallD.of (conv_pc hU d k k0 k1) (by simp) ?_)
              rw [hC2]
              cases h7 : agnOk d (stp k)
              · have hs : shareV n lo hi k = (Dm.zero, Dm.zero, 6) := by
                  simp [shareV, h1, h2, h3, h4, hu, h5, hd, h6, h7]
                rw [hs]
                simp -implicitDefEqProofs [Dm.zero]
              · have hs : shareV n lo hi k = (shareHole n lo hi (stp k), agn d (stp k), 0) := by
                  simp [shareV, h1, h2, h3, h4, hu, h5, hd, h6, h7]
                rw [hs]
                simp -implicitDefEqProofs [shareHole]
                rfl
            · have hs : shareV n lo hi k = (Dm.zero, Dm.zero, 6) := by
                simp [shareV, h1, h2, h3, h4, hu, h5, hd, h6]
              rw [hs]
              simp -implicitDefEqProofs [h6, Dm.zero]
          · have h5' : 1000000000 < n + (hi - lo) / 2 / stp k * stp k := by omega
            have hs : shareV n lo hi k = (Dm.zero, Dm.zero, 6) := by
              simp [shareV, h1, h2, h3, h4, hu, h5]
            rw [hs]
            simp -implicitDefEqProofs [w5, h5', Dm.zero]
        · have hs : shareV n lo hi k = (Dm.zero, Dm.zero, 12) := by
            simp [shareV, h1, h2, h3, h4]
          rw [hs]
          simp -implicitDefEqProofs [h4, Dm.zero]
end
end Go.Proofs.YtikjooemblpnbaaDoor
