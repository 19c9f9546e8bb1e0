/-
  The law SizeExamples: what it tells.
-/
import Derived.Test.YtikjooemblpnbaaDoorRm
import Derived.Test.YtikjooemblpnbaaDoorRcG
namespace Go.Proofs.YtikjooemblpnbaaDoor
open Go.RowKit

/-- A function that takes no row as an empty one. -/
theorem PC_nils1 {P : Program} {G : Nat → Option (List AV)} {f : FuncId} {v : AV} (h : PC P G f [.vsl []] v) : PC P G f [.nils] v := by
  refine ⟨h.1, fun M W vs hM hG hs hv => h.2 M W vs hM hG hs fun i y u hi hu => ?_⟩
  match i, hi with
  | 0, hi =>
    cases hi
    have := hv 0 .nils u rfl hu
    cases this
    exact .vsl [] none 0 1 0 0 (fun _ _ => undef) (Nat.le_refl _) (Nat.zero_le _) (fun h => absurd rfl h) (fun _ => ⟨rfl, rfl⟩) (by simp) (by simp) (by simp)

abbrev oddD : Dm := ⟨0, 1, 0⟩
abbrev xText : ByteArray := ⟨#[50, 48, 46, 48, 48, 48, 32, 45, 48, 46, 48, 48, 48, 32, 43, 48, 46, 48, 48, 55, 32, 109, 109]⟩
theorem x_exact : exactV ⟨1270000, 1270000, 1270000⟩ = 3 := by kernel_rfl
theorem x_chk : chk ⟨1270000, 1270000, 1270000⟩ = 0 := by kernel_rfl
theorem x_fit1 : fitV dHole dShaft = (700, 4100, 1, 0) := by kernel_rfl
theorem x_fit2 : fitV dShaft dHole = (-4100, -700, 2, 0) := by kernel_rfl
theorem x_odd : chk oddD = 10 := by kernel_rfl
theorem x_wr0 : writeV dHole 0 = (⟨#[]⟩, 11) := by kernel_rfl
theorem x_wr2 : writeV dHole 2 = (⟨#[]⟩, 12) := by kernel_rfl
theorem x_rd : readR xText = (Dm.zero, 0, 13) := by kernel_rfl
theorem x_conv : conv ⟨5, 1, 99⟩ 1 = (Dm.zero, 6) := by kernel_rfl
theorem x_redr : redraw dHole (List.replicate 21 0) = (Dm.zero, 4) := by kernel_rfl
theorem x_redr2 : redraw dHole [1, 3] = (Dm.zero, 11) := by kernel_rfl
theorem x_lost : lostV dHole 3 = (0, 0, 11) := by kernel_rfl
theorem x_in : insideV dHole oddD = (false, 10) := by kernel_rfl
theorem x_room1 : roomV dHole 1 0 = (Dm.zero, 2) := by kernel_rfl
theorem x_room2 : roomV dHole 700 800 = (Dm.zero, 6) := by kernel_rfl
theorem x_share : shareV 2000000 700 4100 2 = (Dm.zero, Dm.zero, 12) := by kernel_rfl
theorem x_meet1 : meetV [dHole, dShaft] = (0, 0, 6) := by kernel_rfl
theorem x_meet2 : meetV [] = (0, 0, 6) := by kernel_rfl
theorem x_meet3 : meetV (List.replicate 21 Dm.zero) = (0, 0, 4) := by kernel_rfl
theorem x_share2 : shareV (-1) 0 0 1 = (Dm.zero, Dm.zero, 2) := by kernel_rfl

section
variable {G : Nat → Option (List AV)}

set_option maxRecDepth 100000 in
theorem formatInt_pc : PC Tryd.prog G 101 [.int .i64 10, .int .i64 10] (.str ⟨#[49, 48]⟩) := by
  refine ⟨by kernel_rfl, fun M W vs hM hG hz hv => ?_⟩
  obtain ⟨l⟩ := vs
  match l, hz, hv with
  | [x0, x1], _, hv =>
    rw [(hv 0 _ x0 rfl rfl).int_inv, (hv 1 _ x1 rfl rfl).int_inv]
    have h : Calls Tryd.prog 101 #[.int .i64 10, .int .i64 10] W fun e w' => e = .returned (.string ⟨#[49, 48]⟩) ∧ Ext W w' := by
      go_enter Tryd.func101, Tryd.ntmps101
      go_wp2
      exact bodyPost_ret (v := .string ⟨#[49, 48]⟩) (by kernel_rfl) rfl ⟨rfl, Ext.refl _⟩
    refine h.mono ?_
    rintro e w ⟨rfl, he⟩
    exact ⟨_, rfl, .str _, he⟩

theorem error_pc : PC Tryd.prog G 47 [.int .i64 10] (.str ⟨#[101, 114, 114, 111, 114, 32, 49, 48]⟩) := by
  have h1 : PC Tryd.prog G 92 [.int .i64 10] (.str ⟨#[49, 48]⟩) := by
    (refine pc_internal_strconv_Itoa (Nat.le_of_ble_eq_true rfl) fun R hG => GO_AR mixed 1000 ?_; subst hG)
    simp -implicitDefEqProofs [rc_internal_strconv_Itoa, rr_internal_strconv_Itoa]
    (first | refine CallK.of (formatInt_pc) (by simp) ?_ | refine CallD.of (formatInt_pc) (by simp) ?_)
    simp -implicitDefEqProofs
  have h2 : PC Tryd.prog G 76 [.int .i64 10] (.str ⟨#[49, 48]⟩) := by
    (refine pc_strconv_Itoa (Nat.le_of_ble_eq_true rfl) fun R hG => GO_AR mixed 1000 ?_; subst hG)
    simp -implicitDefEqProofs [rc_strconv_Itoa, rr_strconv_Itoa]
    (first | refine CallK.of (h1) (by simp) ?_ | refine CallD.of (h1) (by simp) ?_)
    simp -implicitDefEqProofs
  (refine pc_api_Errno_Error (Nat.le_of_ble_eq_true rfl) fun R hG => GO_AR mixed 1000 ?_; subst hG)
  simp -implicitDefEqProofs [rc_api_Errno_Error, rr_api_Errno_Error]
  (first | refine CallK.of (h2) (by simp) ?_ | refine CallD.of (h2) (by simp) ?_)
  have e1 : (⟨#[101, 114, 114, 111, 114, 32]⟩ : ByteArray).size + (⟨#[49, 48]⟩ : ByteArray).size ≤ 9223372036854775807 := by decide
  have e2 : (⟨#[101, 114, 114, 111, 114, 32]⟩ : ByteArray) ++ ⟨#[49, 48]⟩ = ⟨#[101, 114, 114, 111, 114, 32, 49, 48]⟩ := by kernel_rfl
  simp -implicitDefEqProofs [e1, e2]

set_option maxHeartbeats 2000000 in
set_option maxRecDepth 8000 in
theorem sizeExamples_pc (hg : Gs G) : PC Tryd.prog G 15 [] (.bool true) := by
  have hU := hg.1
  have e0 : ((⟨#[101, 114, 114, 111, 114, 32, 49, 48]⟩ : ByteArray).toList == (⟨#[101, 114, 114, 111, 114, 32, 49, 48]⟩ : ByteArray).toList) = true := by simp
  (refine pc_law01_SizeExamples (Nat.le_of_ble_eq_true rfl) fun R hG => GO_AR mixed 1000 ?_; subst hG)
  simp -implicitDefEqProofs [rc_law01_SizeExamples, rr_law01_SizeExamples]
  (first | refine CallK.of (error_pc) (by simp) ?_ | refine CallD.of (error_pc) (by simp) ?_)
  simp -implicitDefEqProofs [e0]
  (first | refine CallK.of (alive_pc hg) (by simp) ?_ | refine CallD.of (alive_pc hg) (by simp) ?_)
  simp -implicitDefEqProofs
  (first | refine CallK.of (dimL_pc 1270000 1270000 1270000) (by simp) ?_ | refine CallD.of (dimL_pc 1270000 1270000 1270000) (by simp) ?_)
  simp -implicitDefEqProofs
  (first | refine CallK.of (exactSz_pc hU ⟨1270000, 1270000, 1270000⟩) (by simp) ?_ | refine CallD.of (exactSz_pc hU ⟨1270000, 1270000, 1270000⟩) (by simp) ?_)
  rw [x_exact, x_chk]
  simp -implicitDefEqProofs
  (first | refine CallK.of (hole_pc) (by simp) ?_ | refine CallD.of (hole_pc) (by simp) ?_)
  simp -implicitDefEqProofs
  (first | refine CallK.of (shaft_pc) (by simp) ?_ | refine CallD.of (shaft_pc) (by simp) ?_)
  simp -implicitDefEqProofs
  (first | refine CallK.of (fitS_pc dHole dShaft) (by simp) ?_ | refine CallD.of (fitS_pc dHole dShaft) (by simp) ?_)
  rw [x_fit1]
  simp -implicitDefEqProofs
  (first | refine CallK.of (shaft_pc) (by simp) ?_ | refine CallD.of (shaft_pc) (by simp) ?_)
  simp -implicitDefEqProofs
  (first | refine CallK.of (hole_pc) (by simp) ?_ | refine CallD.of (hole_pc) (by simp) ?_)
  simp -implicitDefEqProofs
  (first | refine CallK.of (fitS_pc dShaft dHole) (by simp) ?_ | refine CallD.of (fitS_pc dShaft dHole) (by simp) ?_)
  rw [x_fit2]
  simp -implicitDefEqProofs
  (first | refine CallK.of (dimL_pc 0 1 0) (by simp) ?_ | refine CallD.of (dimL_pc 0 1 0) (by simp) ?_)
  simp -implicitDefEqProofs
  (first | refine CallK.of (exactSz_pc hU oddD) (by simp) ?_ | refine CallD.of (exactSz_pc hU oddD) (by simp) ?_)
  rw [x_odd]
  simp -implicitDefEqProofs
  (first | refine CallK.of (hole_pc) (by simp) ?_ | refine CallD.of (hole_pc) (by simp) ?_)
  simp -implicitDefEqProofs
  (first | refine CallK.of (write_pc hU dHole 0 (by omega) (by omega)) (by simp) ?_ | refine CallD.of (write_pc hU dHole 0 (by omega) (by omega)) (by simp) ?_)
  rw [x_wr0]
  simp -implicitDefEqProofs
  (first | refine CallK.of (hole_pc) (by simp) ?_ | refine CallD.of (hole_pc) (by simp) ?_)
  simp -implicitDefEqProofs
  (first | refine CallK.of (write_pc hU dHole 2 (by omega) (by omega)) (by simp) ?_ | refine CallD.of (write_pc hU dHole 2 (by omega) (by omega)) (by simp) ?_)
  rw [x_wr2]
  simp -implicitDefEqProofs
  (first | refine CallK.of (read_pc hg xText (by decide)) (by simp) ?_ | refine CallD.of (read_pc hg xText (by decide)) (by simp) ?_)
  rw [x_rd]
  simp -implicitDefEqProofs [Dm.zero]
  (first | refine CallK.of (dimL_pc 5 1 99) (by simp) ?_ | refine CallD.of (dimL_pc 5 1 99) (by simp) ?_)
  simp -implicitDefEqProofs
  (first | refine CallK.of (conv_pc hU ⟨5, 1, 99⟩ 1 (by omega) (by omega)) (by simp) ?_ | refine CallD.of (conv_pc hU ⟨5, 1, 99⟩ 1 (by omega) (by omega)) (by simp) ?_)
  rw [x_conv]
  simp -implicitDefEqProofs [Dm.zero]
  (first | refine CallK.of (hole_pc) (by simp) ?_ | refine CallD.of (hole_pc) (by simp) ?_)
  simp -implicitDefEqProofs
  refine CallD.flat (redraw_pc hU dHole (List.replicate 21 0) (by simp) (fun j h => by rw [List.getElem_replicate]; omega)) (by simp [AV.flat]) (by simp [snapL, snap, snapF, okAll, St.get, lk, u8s, AV.pure]) ?_
  rw [x_redr]
  simp -implicitDefEqProofs [Dm.zero]
  refine ⟨rfl, ?_⟩
  (first | refine CallK.of (hole_pc) (by simp) ?_ | refine CallD.of (hole_pc) (by simp) ?_)
  simp -implicitDefEqProofs [List.range, List.range.loop]
  (first | refine CallK.of (redraw_pc hU dHole [1, 3] (by simp) (by intro j h; match j, h with | 0, _ => simp | 1, _ => simp)) (by simp) ?_ | refine CallD.of (redraw_pc hU dHole [1, 3] (by simp) (by intro j h; match j, h with | 0, _ => simp | 1, _ => simp)) (by simp) ?_)
  rw [x_redr2]
  simp -implicitDefEqProofs [Dm.zero]
  (first | refine CallK.of (hole_pc) (by simp) ?_ | refine CallD.of (hole_pc) (by simp) ?_)
  simp -implicitDefEqProofs
  (first | refine CallK.of (lost_pc hU dHole 3 (by omega) (by omega)) (by simp) ?_ | refine CallD.of (lost_pc hU dHole 3 (by omega) (by omega)) (by simp) ?_)
  rw [x_lost]
  simp -implicitDefEqProofs
  (first | refine CallK.of (hole_pc) (by simp) ?_ | refine CallD.of (hole_pc) (by simp) ?_)
  simp -implicitDefEqProofs
  (first | refine CallK.of (insideS_pc dHole oddD) (by simp) ?_ | refine CallD.of (insideS_pc dHole oddD) (by simp) ?_)
  rw [x_in]
  simp -implicitDefEqProofs
  refine ⟨rfl, ?_⟩
  (first | refine CallK.of (hole_pc) (by simp) ?_ | refine CallD.of (hole_pc) (by simp) ?_)
  simp -implicitDefEqProofs
  (first | refine CallK.of (RoomS_pc dHole 1 0) (by simp) ?_ | refine CallD.of (RoomS_pc dHole 1 0) (by simp) ?_)
  rw [x_room1]
  simp -implicitDefEqProofs [Dm.zero]
  (first | refine CallK.of (hole_pc) (by simp) ?_ | refine CallD.of (hole_pc) (by simp) ?_)
  simp -implicitDefEqProofs
  (first | refine CallK.of (RoomS_pc dHole 700 800) (by simp) ?_ | refine CallD.of (RoomS_pc dHole 700 800) (by simp) ?_)
  rw [x_room2]
  simp -implicitDefEqProofs [Dm.zero]
  (first | refine CallK.of (shareS_pc hU 2000000 700 4100 2 (by omega) (by omega)) (by simp) ?_ | refine CallD.of (shareS_pc hU 2000000 700 4100 2 (by omega) (by omega)) (by simp) ?_)
  rw [x_share]
  simp -implicitDefEqProofs [Dm.av, Dm.zero]
  (first | refine CallK.of (hole_pc) (by simp) ?_ | refine CallD.of (hole_pc) (by simp) ?_)
  simp -implicitDefEqProofs
  (first | refine CallK.of (shaft_pc) (by simp) ?_ | refine CallD.of (shaft_pc) (by simp) ?_)
  simp -implicitDefEqProofs [List.range, List.range.loop]
  (first | refine CallK.of (meetSz_pc [dHole, dShaft]) (by simp) ?_ | refine CallD.of (meetSz_pc [dHole, dShaft]) (by simp) ?_)
  rw [x_meet1]
  simp -implicitDefEqProofs
  (first | refine CallK.of (PC_nils1 (meetSz_pc [])) (by simp) ?_ | refine CallD.of (PC_nils1 (meetSz_pc [])) (by simp) ?_)
  rw [x_meet2]
  simp -implicitDefEqProofs
  refine CallK.flat (meetSz_pc (List.replicate 21 Dm.zero)) (by simp [AV.flat]) (by simp [snapL, snap, snapF, okAll, St.get, lk, Dm.cs, Dm.zero, AV.pure]) ?_
  rw [x_meet3]
  simp -implicitDefEqProofs
  (first | refine CallK.of (shareS_pc hU (-1) 0 0 1 (by omega) (by omega)) (by simp) ?_ | refine CallD.of (shareS_pc hU (-1) 0 0 1 (by omega) (by omega)) (by simp) ?_)
  rw [x_share2]
  simp -implicitDefEqProofs [Dm.av, Dm.zero]
end
end Go.Proofs.YtikjooemblpnbaaDoor
