/-
  size.Exact, Redraw and Lost as contracts of the abstract machine; the chapter's examples (alive).
-/
import Derived.Test.YtikjooemblpnbaaDoorWd
import Derived.Test.YtikjooemblpnbaaDoorLa
/-! size.Exact, Redraw and Lost as contracts of the abstract machine; the chapter's examples (alive). -/
namespace Go.Proofs.YtikjooemblpnbaaDoor
open Go.RowKit

def u8s (l : List Int) : List (List AV) := l.map fun n => [.int .u8 n]

section
variable {G : Nat → Option (List AV)}

theorem lost_pc (hU : G 0 = some unitsT) (d : Dm) (k : Int) (h0 : 0 ≤ k) (h1 : k ≤ 255) :
    PC Tryd.prog G 20 [.agg [.int .i64 d.n, .int .i64 d.l, .int .i64 d.u], .int .u8 k] (.tup [.int .i64 (lostV d k).1, .int .i64 (lostV d k).2.1, .int .i64 (lostV d k).2.2]) := by
  refine ⟨by kernel_rfl, fun M W vs hM hG hs hv => ?_⟩
  obtain ⟨l⟩ := vs
  match l, hs, hv with
  | [x0, x1], _, hv =>
    rw [(hv 0 _ x0 rfl rfl).agg3_inv, (hv 1 _ x1 rfl rfl).int_inv]
    refine (lostS_any d k W (Units.of_gr hU hG) h0 h1).mono ?_
    rintro e w ⟨rfl, he⟩
    refine ⟨_, rfl, ?_, he⟩
    refine .tup _ _ rfl fun i x u hx hu => ?_
    match i, hx, hu with
    | 0, hx, hu => cases hx; cases hu; exact .int _ _
    | 1, hx, hu => cases hx; cases hu; exact .int _ _
    | 2, hx, hu => cases hx; cases hu; exact .int _ _

theorem redraw_pc (hU : G 0 = some unitsT) (d : Dm) (l : List Int) (hl : l.length ≤ 1000000) (hb : ∀ (j : Nat) (h : j < l.length), 0 ≤ l[j] ∧ l[j] ≤ 255) :
    PC Tryd.prog G 18 [.agg [.int .i64 d.n, .int .i64 d.l, .int .i64 d.u], .vsl (u8s l)] (.tup [.agg [.int .i64 (redraw d l).1.n, .int .i64 (redraw d l).1.l, .int .i64 (redraw d l).1.u], .int .i64 (redraw d l).2]) := by
  refine ⟨by kernel_rfl, fun M W vs hM hG hs hv => ?_⟩
  obtain ⟨vl⟩ := vs
  match vl, hs, hv with
  | [x0, x1], _, hv =>
    rw [(hv 0 _ x0 rfl rfl).agg3_inv]
    have h1 := hv 1 _ x1 rfl rfl
    have hsl : SlU W x1 l := by
      cases h1 with
      | vsl _ ad cap sz b o f hcap hmax ha hn hsz hc hr =>
        refine ⟨ad, cap, by simp [u8s], by omega, fun hne => ?_⟩
        have hne' : u8s l ≠ [] := by simpa [u8s] using hne
        obtain ⟨rfl, hb, -⟩ := ha hne'
        refine ⟨b, o, rfl, hb, fun i hi => ?_⟩
        have e1 : sz = 1 := by
          have := hsz [.int .u8 l[i]] (by simp only [u8s, List.mem_map]; exact ⟨l[i], List.getElem_mem hi, rfl⟩)
          simpa using this.symm
        subst e1
        have h3 := hc i 0 (by simpa [u8s] using hi) (by omega)
        have h4 := hr i 0 [.int .u8 l[i]] (.int .u8 l[i]) (by simp [u8s, hi]) rfl
        rw [h4.int_inv] at h3
        simpa using h3
    refine (redrawS_any d x1 l W hsl (Units.of_gr hU hG) hb).mono ?_
    rintro e w ⟨rfl, he⟩
    exact ⟨_, rfl, .tup2 (.agg3 _ _ _) (.int _ _), he⟩

theorem exactSz_pc (hU : G 0 = some unitsT) (d : Dm) :
    PC Tryd.prog G 33 [.agg [.int .i64 d.n, .int .i64 d.l, .int .i64 d.u]] (.tup [.int .u8 (exactV d), .int .i64 (chk d)]) := by
  (refine pc_size_Exact (Nat.le_of_ble_eq_true rfl) fun R hG => GO_AR mixed 1000 ?_; subst hG)
  simp -implicitDefEqProofs [rc_size_Exact, rr_size_Exact]
  (first | refine CallK.of (checkS_pc d) (by simp) ?_ | refine CallD.of (checkS_pc d) (by simp) ?_)
  cases h1 : vd d
  · simp -implicitDefEqProofs [chk, exactV, h1]
  · obtain ⟨x0, x1, x2, x3, x4⟩ := of_decide_eq_true h1
    have hex : ∀ s : Int, ([d.n, d.l, d.u].all fun n => decide (n % s = 0)) = exa d s := fun s => by simp [exa, Bool.decide_and]
    have e1 : PC Tryd.prog R.G 60 [.agg [.int .i64 100, .int .i64 3, .str nameMm, .func (.func 143) [] []], .vsl ([d.n, d.l, d.u].map ics)] (.bool (exa d 100)) := by
      rw [← hex]; exact exactS_pc 100 1 (.inl ⟨rfl, rfl⟩) [d.n, d.l, d.u] (by simp) (by simp; omega)
    have e2 : PC Tryd.prog R.G 60 [.agg [.int .i64 254, .int .i64 4, .str nameIn, .func (.func 143) [] []], .vsl ([d.n, d.l, d.u].map ics)] (.bool (exa d 254)) := by
      rw [← hex]; exact exactS_pc 254 2 (.inr ⟨rfl, rfl⟩) [d.n, d.l, d.u] (by simp) (by simp; omega)
    have u1 : IntKind.u8.wrap 1 = 1 := rfl
    have u2 : IntKind.u8.wrap 2 = 2 := rfl
    have u3 : IntKind.u8.wrap 3 = 3 := rfl
    have z0 : exactV d = (if exa d 100 = true then 1 else 0) + (if exa d 254 = true then 2 else 0) := by simp [exactV, h1]
    have c0 : chk d = 0 := by simp [chk, h1]
    simp -implicitDefEqProofs [chk, h1, hU, unitsT]
    refine AR_rounds 4 ?_
    unfold ARn
    refine GO_AR mixed 1000 ?_
    simp -implicitDefEqProofs [wr1]
    cases h2 : exa d 100 <;> cases h3 : exa d 254
    all_goals
      unfold ARn
      refine AR_weak (Weak.sub (t' := [(14, .int .i64 1), (13, .agg unitsT), (5, .int .u8 0), (1, .ptr 1 0)]) (o' := [(1, .box [.int .i64 d.n, .int .i64 d.l, .int .i64 d.u])]) (by simp [lk, keptA, AV.keys, unitsT]) (by simp [lk, keptO, keptA, AV.keys])) ?_
      refine GO_AR mixed 1000 ?_
      simp -implicitDefEqProofs [wr2, unitsT, List.range, List.range.loop]
      (first | refine CallK.of (e1) (by simp) ?_ | refine CallD.of (e1) (by simp) ?_)
      simp -implicitDefEqProofs [wr2, h2, u1]
      unfold ARn
      refine AR_weak (Weak.sub (t' := [(14, .int .i64 2), (13, .agg unitsT), (5, .int .u8 (if exa d 100 = true then 1 else 0)), (1, .ptr 1 0)]) (o' := [(1, .box [.int .i64 d.n, .int .i64 d.l, .int .i64 d.u])]) (by simp [lk, keptA, AV.keys, unitsT, h2]) (by simp [lk, keptO, keptA, AV.keys])) ?_
      refine GO_AR mixed 1000 ?_
      simp -implicitDefEqProofs [wr3, unitsT, List.range, List.range.loop]
      (first | refine CallK.of (e2) (by simp) ?_ | refine CallD.of (e2) (by simp) ?_)
      simp -implicitDefEqProofs [wr3, h2, h3, u1, u2, u3]
      unfold ARn
      refine GO_AR mixed 1000 ?_
      simp -implicitDefEqProofs [h2, h3, z0, c0]
      refine GO_ret mixed 1000 ?_
      simp -implicitDefEqProofs [h2, h3, z0, c0]
end
end Go.Proofs.YtikjooemblpnbaaDoor

/-! The chapter's examples: the law's helper 'alive' tells true. -/
namespace Go.Proofs.YtikjooemblpnbaaDoor
open Go.RowKit

section
variable {G : Nat → Option (List AV)}

theorem dimL_pc (n l u : Int) : PC Tryd.prog G 44 [.int .i64 n, .int .i64 l, .int .i64 u] (.agg [.int .i64 n, .int .i64 l, .int .i64 u]) := by
  (refine pc_law01_dim (Nat.le_of_ble_eq_true rfl) fun R hG => GO_AR mixed 1000 ?_; subst hG)
  simp -implicitDefEqProofs [rc_law01_dim, rr_law01_dim]
theorem hole_pc : PC Tryd.prog G 48 [] (.agg [.int .i64 2000000, .int .i64 2000000, .int .i64 2002100]) := by
  (refine pc_law01_hole (Nat.le_of_ble_eq_true rfl) fun R hG => GO_AR mixed 1000 ?_; subst hG)
  simp -implicitDefEqProofs [rc_law01_hole, rr_law01_hole]
  (first | refine CallK.of (dimL_pc 2000000 2000000 2002100) (by simp) ?_ | refine CallD.of (dimL_pc 2000000 2000000 2002100) (by simp) ?_)
  simp -implicitDefEqProofs
theorem shaft_pc : PC Tryd.prog G 49 [] (.agg [.int .i64 2000000, .int .i64 1998000, .int .i64 1999300]) := by
  (refine pc_law01_shaft (Nat.le_of_ble_eq_true rfl) fun R hG => GO_AR mixed 1000 ?_; subst hG)
  simp -implicitDefEqProofs [rc_law01_shaft, rr_law01_shaft]
  (first | refine CallK.of (dimL_pc 2000000 1998000 1999300) (by simp) ?_ | refine CallD.of (dimL_pc 2000000 1998000 1999300) (by simp) ?_)
  simp -implicitDefEqProofs
theorem press_pc : PC Tryd.prog G 74 [] (.agg [.int .i64 2000000, .int .i64 2001500, .int .i64 2002800]) := by
  (refine pc_law01_press (Nat.le_of_ble_eq_true rfl) fun R hG => GO_AR mixed 1000 ?_; subst hG)
  simp -implicitDefEqProofs [rc_law01_press, rr_law01_press]
  (first | refine CallK.of (dimL_pc 2000000 2001500 2002800) (by simp) ?_ | refine CallD.of (dimL_pc 2000000 2001500 2002800) (by simp) ?_)
  simp -implicitDefEqProofs
theorem thin_pc : PC Tryd.prog G 75 [] (.agg [.int .i64 1999996, .int .i64 2000250, .int .i64 2002028]) := by
  (refine pc_law01_thin (Nat.le_of_ble_eq_true rfl) fun R hG => GO_AR mixed 1000 ?_; subst hG)
  simp -implicitDefEqProofs [rc_law01_thin, rr_law01_thin]
  (first | refine CallK.of (dimL_pc 1999996 2000250 2002028) (by simp) ?_ | refine CallD.of (dimL_pc 1999996 2000250 2002028) (by simp) ?_)
  simp -implicitDefEqProofs
end

abbrev dHole : Dm := ⟨2000000, 2000000, 2002100⟩
abbrev dShaft : Dm := ⟨2000000, 1998000, 1999300⟩
abbrev dPress : Dm := ⟨2000000, 2001500, 2002800⟩
abbrev dThin : Dm := ⟨1999996, 2000250, 2002028⟩
theorem a_conv : conv dHole 2 = (dThin, 0) := by kernel_rfl
theorem a_wr1 : writeV dThin 2 = (⟨#[48, 46, 55, 56, 55, 52, 32, 43, 48, 46, 48, 48, 48, 49, 32, 43, 48, 46, 48, 48, 48, 56, 32, 105, 110]⟩, 0) := by kernel_rfl
theorem a_lost : lostV dHole 2 = (250, 72, 0) := by kernel_rfl
theorem a_redr : redraw dHole [2, 1] = (⟨2000000, 2000300, 2002000⟩, 0) := by kernel_rfl
theorem a_wr2 : writeV ⟨2000000, 2000300, 2002000⟩ 1 = (⟨#[50, 48, 46, 48, 48, 48, 32, 43, 48, 46, 48, 48, 51, 32, 43, 48, 46, 48, 50, 48, 32, 109, 109]⟩, 0) := by kernel_rfl
theorem a_fit : fitV dHole dPress = (-2800, 600, 3, 0) := by kernel_rfl
theorem a_room : roomV dHole 700 4100 = (dShaft, 0) := by kernel_rfl
theorem a_meet : meetV [dHole, dPress] = (2001500, 2002100, 0) := by kernel_rfl
theorem a_in : insideV dThin dHole = (true, 0) := by kernel_rfl
theorem a_share : shareV 2000000 700 4100 1 = (⟨2000000, 2000000, 2001700⟩, ⟨2000000, 1997600, 1999300⟩, 0) := by kernel_rfl
abbrev aText : ByteArray := ⟨#[50, 48, 46, 48, 48, 48, 32, 45, 48, 46, 48, 50, 48, 32, 45, 48, 46, 48, 48, 55, 32, 109, 109]⟩
theorem a_words : wordsV aText = [⟨#[50, 48, 46, 48, 48, 48]⟩, ⟨#[45, 48, 46, 48, 50, 48]⟩, ⟨#[45, 48, 46, 48, 48, 55]⟩, nmV 1] := by kernel_rfl
theorem a_num : numV (bhV 1) ⟨#[50, 48, 46, 48, 48, 48]⟩ = some 20000 := by kernel_rfl
theorem a_dev1 : devV (bhV 1) ⟨#[45, 48, 46, 48, 50, 48]⟩ = some (-20) := by kernel_rfl
theorem a_dev2 : devV (bhV 1) ⟨#[45, 48, 46, 48, 48, 55]⟩ = some (-7) := by kernel_rfl
theorem a_exact : exactV dHole = 1 := by kernel_rfl
theorem a_chk : chk dHole = 0 := by kernel_rfl
theorem a_rd : rdD 1 20000 (-20) (-7) = dShaft := by kernel_rfl

section
variable {G : Nat → Option (List AV)}
set_option maxRecDepth 4000 in
theorem alive_pc (hg : Gs G) : PC Tryd.prog G 41 [] (.bool true) := by
  have hU := hg.1
  have hrd := readS_pc hg aText _ _ _ 1 20000 (-20) (-7) (by decide) a_words (.inl rfl) a_num a_dev1 a_dev2 (by rw [a_rd]; rfl)
  rw [a_rd] at hrd
  (refine pc_law01_alive (Nat.le_of_ble_eq_true rfl) fun R hG => GO_AR mixed 1000 ?_; subst hG)
  simp -implicitDefEqProofs [rc_law01_alive, rr_law01_alive]
  (first | refine CallK.of (hole_pc) (by simp) ?_ | refine CallD.of (hole_pc) (by simp) ?_)
  simp -implicitDefEqProofs
  (first | refine CallK.of (conv_pc hU dHole 2 (by omega) (by omega)) (by simp) ?_ | refine CallD.of (conv_pc hU dHole 2 (by omega) (by omega)) (by simp) ?_)
  rw [a_conv]
  simp -implicitDefEqProofs
  (first | refine CallK.of (write_pc hU dThin 2 (by omega) (by omega)) (by simp) ?_ | refine CallD.of (write_pc hU dThin 2 (by omega) (by omega)) (by simp) ?_)
  rw [a_wr1]
  simp -implicitDefEqProofs
  (first | refine CallK.of (hole_pc) (by simp) ?_ | refine CallD.of (hole_pc) (by simp) ?_)
  simp -implicitDefEqProofs
  (first | refine CallK.of (lost_pc hU dHole 2 (by omega) (by omega)) (by simp) ?_ | refine CallD.of (lost_pc hU dHole 2 (by omega) (by omega)) (by simp) ?_)
  rw [a_lost]
  simp -implicitDefEqProofs
  (first | refine CallK.of (hole_pc) (by simp) ?_ | refine CallD.of (hole_pc) (by simp) ?_)
  simp -implicitDefEqProofs [List.range, List.range.loop]
  (first | refine CallK.of (redraw_pc hU dHole [2, 1] (by simp) (by intro j h; match j, h with | 0, _ => simp | 1, _ => simp)) (by simp) ?_ | refine CallD.of (redraw_pc hU dHole [2, 1] (by simp) (by intro j h; match j, h with | 0, _ => simp | 1, _ => simp)) (by simp) ?_)
  rw [a_redr]
  simp -implicitDefEqProofs
  (first | refine CallK.of (write_pc hU ⟨2000000, 2000300, 2002000⟩ 1 (by omega) (by omega)) (by simp) ?_ | refine CallD.of (write_pc hU ⟨2000000, 2000300, 2002000⟩ 1 (by omega) (by omega)) (by simp) ?_)
  rw [a_wr2]
  simp -implicitDefEqProofs
  (first | refine CallK.of (hole_pc) (by simp) ?_ | refine CallD.of (hole_pc) (by simp) ?_)
  simp -implicitDefEqProofs
  (first | refine CallK.of (exactSz_pc hU dHole) (by simp) ?_ | refine CallD.of (exactSz_pc hU dHole) (by simp) ?_)
  rw [a_exact, a_chk]
  simp -implicitDefEqProofs
  (first | refine CallK.of (hole_pc) (by simp) ?_ | refine CallD.of (hole_pc) (by simp) ?_)
  simp -implicitDefEqProofs
  (first | refine CallK.of (press_pc) (by simp) ?_ | refine CallD.of (press_pc) (by simp) ?_)
  simp -implicitDefEqProofs
  (first | refine CallK.of (fitS_pc dHole dPress) (by simp) ?_ | refine CallD.of (fitS_pc dHole dPress) (by simp) ?_)
  rw [a_fit]
  simp -implicitDefEqProofs
  (first | refine CallK.of (hole_pc) (by simp) ?_ | refine CallD.of (hole_pc) (by simp) ?_)
  simp -implicitDefEqProofs
  (first | refine CallK.of (RoomS_pc dHole 700 4100) (by simp) ?_ | refine CallD.of (RoomS_pc dHole 700 4100) (by simp) ?_)
  rw [a_room]
  simp -implicitDefEqProofs
  (first | refine CallK.of (hole_pc) (by simp) ?_ | refine CallD.of (hole_pc) (by simp) ?_)
  simp -implicitDefEqProofs
  (first | refine CallK.of (press_pc) (by simp) ?_ | refine CallD.of (press_pc) (by simp) ?_)
  simp -implicitDefEqProofs [List.range, List.range.loop]
  (first | refine CallK.of (meetSz_pc [dHole, dPress]) (by simp) ?_ | refine CallD.of (meetSz_pc [dHole, dPress]) (by simp) ?_)
  rw [a_meet]
  simp -implicitDefEqProofs
  (first | refine CallK.of (hrd) (by simp) ?_ | refine CallD.of (hrd) (by simp) ?_)
  simp -implicitDefEqProofs
  (first | refine CallK.of (hole_pc) (by simp) ?_ | refine CallD.of (hole_pc) (by simp) ?_)
  simp -implicitDefEqProofs
  (first | refine CallK.of (insideS_pc dThin dHole) (by simp) ?_ | refine CallD.of (insideS_pc dThin dHole) (by simp) ?_)
  rw [a_in]
  simp -implicitDefEqProofs
  refine ⟨rfl, ?_⟩
  (first | refine CallK.of (shareS_pc hU 2000000 700 4100 1 (by omega) (by omega)) (by simp) ?_ | refine CallD.of (shareS_pc hU 2000000 700 4100 1 (by omega) (by omega)) (by simp) ?_)
  rw [a_share]
  simp -implicitDefEqProofs [Dm.av]
  (first | refine CallK.of (thin_pc) (by simp) ?_ | refine CallD.of (thin_pc) (by simp) ?_)
  simp -implicitDefEqProofs
  (first | refine CallK.of (dimL_pc 2000000 2000300 2002000) (by simp) ?_ | refine CallD.of (dimL_pc 2000000 2000300 2002000) (by simp) ?_)
  simp -implicitDefEqProofs
  refine ⟨rfl, ?_⟩
  (first | refine CallK.of (shaft_pc) (by simp) ?_ | refine CallD.of (shaft_pc) (by simp) ?_)
  simp -implicitDefEqProofs
  (first | refine CallK.of (shaft_pc) (by simp) ?_ | refine CallD.of (shaft_pc) (by simp) ?_)
  simp -implicitDefEqProofs
  (first | refine CallK.of (dimL_pc 2000000 2000000 2001700) (by simp) ?_ | refine CallD.of (dimL_pc 2000000 2000000 2001700) (by simp) ?_)
  simp -implicitDefEqProofs
  (first | refine CallK.of (dimL_pc 2000000 1997600 1999300) (by simp) ?_ | refine CallD.of (dimL_pc 2000000 1997600 1999300) (by simp) ?_)
  simp -implicitDefEqProofs
  rfl
end
end Go.Proofs.YtikjooemblpnbaaDoor
