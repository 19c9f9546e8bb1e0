/-
  At as a tree; the chapter's examples.
-/
import Derived.Test.YtdpmioiamcgfkaaDoorJGaToHk
import Derived.Test.YtdpmioiamcgfkaaDoorJRcJToRcD
set_option linter.unusedSimpArgs false
set_option linter.unusedVariables false
namespace Go.Proofs.YtdpmioiamcgfkaaDoor
open Go.RowKit
section
variable {G : Nat → Option (List AV)}

theorem at_pc (hG : GC G) (r : List Iss) (d l : Int) (h : Wf r) : PC Tryd.prog G 27 [rega r, .agg [.int .i64 d, .int .i64 l]] (.tup [.agg (isa (atP r d l).1), .int .i64 (atP r d l).2]) := by
  by_cases e : openV r = 0
  case neg =>
    refine PC.nzR (v := .tup [.agg [.int .i64 0, .int .i64 0, .int .u8 0, .nils, .nils], .int .i64 (openV r)]) ?_ (by simp [nz, atP, e, zI, isa])
    (refine pc_sheet_At (Nat.le_of_ble_eq_true rfl) fun R hG hrd => GO_AR mixed 1000 ?_; subst hG)
    simp -implicitDefEqProofs [rc_sheet_At, rr_sheet_At, rega]
    (first | refine CallK.of (open_pc hG r h) (by simp) ?_ | refine CallD.of (open_pc hG r h) (by simp) ?_)
    simp -implicitDefEqProofs [openA, e]
  have hL := open_listed e
  have hO := ord_of hL
  cases hf : findN d l r with
  | none =>
    refine PC.nzR (v := .tup [.agg [.int .i64 0, .int .i64 0, .int .u8 0, .nils, .nils], .int .i64 6]) ?_ (by simp [nz, atP, e, hf, zI, isa])
    (refine pc_sheet_At (Nat.le_of_ble_eq_true rfl) fun R hG hrd => GO_AR mixed 1000 ?_; subst hG)
    simp -implicitDefEqProofs [rc_sheet_At, rr_sheet_At, rega]
    (first | refine CallK.of (open_pc hG r h) (by simp) ?_ | refine CallD.of (open_pc hG r h) (by simp) ?_)
    simp -implicitDefEqProofs [openA, e]
    (first | refine CallK.of (find_pcS r (nums r) d l (ord_map hO) h.1.1 (find_own hL)) (by simp) ?_ | refine CallD.of (find_pcS r (nums r) d l (ord_map hO) h.1.1 (find_own hL)) (by simp) ?_)
    simp -implicitDefEqProofs [hf, fndA, noIs]
  | some x =>
    have ev : atP r d l = (x, 0) := by simp [atP, e, hf]
    have hx := h.1.2 x (findN_mem hf).1
    have ex : isa x = [.int .i64 x.d, .int .i64 x.l, .int .u8 x.k, .vsl (x.its.map ita), .vsl (x.dms.map dma)] := rfl
    have cp := copied_pc (G := G) x hx.1 hx.2
    rw [ev]
    rw [ex] at cp
    (refine pc_sheet_At (Nat.le_of_ble_eq_true rfl) fun R hG hrd => GO_AR mixed 1000 ?_; subst hG)
    simp -implicitDefEqProofs [rc_sheet_At, rr_sheet_At, rega]
    (first | refine CallK.of (open_pc hG r h) (by simp) ?_ | refine CallD.of (open_pc hG r h) (by simp) ?_)
    simp -implicitDefEqProofs [openA, e]
    (first | refine CallK.of (find_pcS r (nums r) d l (ord_map hO) h.1.1 (find_own hL)) (by simp) ?_ | refine CallD.of (find_pcS r (nums r) d l (ord_map hO) h.1.1 (find_own hL)) (by simp) ?_)
    simp -implicitDefEqProofs [hf, fndA, ex]
    (first | refine CallK.of (cp) (by simp) ?_ | refine CallD.of (cp) (by simp) ?_)
    simp -implicitDefEqProofs [ex]

attribute [local simp] rega_pure
set_option maxRecDepth 100000 in
set_option maxHeartbeats 4000000 in
theorem alive_pc (hG : GC G) : PC Tryd.prog G 51 [] (.bool true) := by
  have hM := merge_few_pc hG regL regL reg_wf reg_wf (fun _ => by decide)
  rw [reg_merge] at hM
  have hA := at_pc hG regL 30 2 reg_wf
  have eA : atP regL 30 2 = (⟨30, 2, 2, [], [⟨150, 120, 200⟩]⟩, 0) := by simp [atP, reg_open, reg_at]
  rw [eA] at hA
  have k10 : knV regL 10 = 0 := by decide +kernel
  have k30 : knV regL 30 = 0 := by decide +kernel
  have hD := drawP_pc hG regL reg_wf
  rw [reg_open, if_pos rfl, reg_nums] at hD
  have hE := explP_pc hG regL [1, 1, 1, 1, 1] 10 reg_wf
  rw [reg_expl] at hE
  have hT := treeP_pc hG regL [1, 1, 2, 1, 1] 10 reg_wf
  rw [reg_tree] at hT
  have hU := usesP_pc hG regL 30 reg_wf
  rw [reg_uses] at hU
  have hB := aboveP_pc hG regL [2, 1, 1, 1, 1] 40 reg_wf
  rw [reg_above] at hB
  have hF := differP_pc hG regL 10 1 2 reg_wf
  rw [reg_differ] at hF
  have hP := depthP_pc hG regL 10 reg_wf
  rw [k10, if_pos rfl, reg_depth] at hP
  have hL := lastP_pc hG regL 30 reg_wf
  rw [k30, if_pos rfl, reg_last] at hL
  have r5 : List.range 5 = [0, 1, 2, 3, 4] := rfl
  have hR := register_pc (G := G)
  have hR1 := first_pc (G := G)
  have hR2 := second_pc (G := G)
  simp only [List.map_cons, List.map_nil, ia, ita, bra, dma] at hD hE hT hU hB hF hR1 hR2
  (refine pc_law02_alive (Nat.le_of_ble_eq_true rfl) fun R hG hrd => GO_AR mixed 1000 ?_; subst hG)
  simp -implicitDefEqProofs [rc_law02_alive, rr_law02_alive]
  (first | refine CallK.of (hR) (by simp) ?_ | refine CallD.of (hR) (by simp) ?_)
  simp -implicitDefEqProofs []
  (first | refine CallK.of (hD) (by simp) ?_ | refine CallD.of (hD) (by simp) ?_)
  simp -implicitDefEqProofs []
  (first | refine CallK.of (hR) (by simp) ?_ | refine CallD.of (hR) (by simp) ?_)
  simp -implicitDefEqProofs []
  (first | refine CallK.of (hR1) (by simp) ?_ | refine CallD.of (hR1) (by simp) ?_)
  simp -implicitDefEqProofs []
  (first | refine CallK.of (hE) (by simp) ?_ | refine CallD.of (hE) (by simp) ?_)
  simp -implicitDefEqProofs []
  (first | refine CallK.of (hR) (by simp) ?_ | refine CallD.of (hR) (by simp) ?_)
  simp -implicitDefEqProofs [r5]
  (first | refine CallK.of (hT) (by simp) ?_ | refine CallD.of (hT) (by simp) ?_)
  simp -implicitDefEqProofs []
  (first | refine CallK.of (hR) (by simp) ?_ | refine CallD.of (hR) (by simp) ?_)
  simp -implicitDefEqProofs []
  (first | refine CallK.of (hU) (by simp) ?_ | refine CallD.of (hU) (by simp) ?_)
  simp -implicitDefEqProofs []
  (first | refine CallK.of (hR) (by simp) ?_ | refine CallD.of (hR) (by simp) ?_)
  simp -implicitDefEqProofs []
  (first | refine CallK.of (hR2) (by simp) ?_ | refine CallD.of (hR2) (by simp) ?_)
  simp -implicitDefEqProofs []
  (first | refine CallK.of (hB) (by simp) ?_ | refine CallD.of (hB) (by simp) ?_)
  simp -implicitDefEqProofs []
  (first | refine CallK.of (hR) (by simp) ?_ | refine CallD.of (hR) (by simp) ?_)
  simp -implicitDefEqProofs []
  (first | refine CallK.of (hF) (by simp) ?_ | refine CallD.of (hF) (by simp) ?_)
  simp -implicitDefEqProofs []
  (first | refine CallK.of (hR) (by simp) ?_ | refine CallD.of (hR) (by simp) ?_)
  simp -implicitDefEqProofs []
  (first | refine CallK.of (hP) (by simp) ?_ | refine CallD.of (hP) (by simp) ?_)
  simp -implicitDefEqProofs []
  (first | refine CallK.of (hR) (by simp) ?_ | refine CallD.of (hR) (by simp) ?_)
  simp -implicitDefEqProofs []
  (first | refine CallK.of (hL) (by simp) ?_ | refine CallD.of (hL) (by simp) ?_)
  simp -implicitDefEqProofs []
  (first | refine CallK.of (hR) (by simp) ?_ | refine CallD.of (hR) (by simp) ?_)
  simp -implicitDefEqProofs []
  (first | refine CallK.of (hA) (by simp) ?_ | refine CallD.of (hA) (by simp) ?_)
  simp -implicitDefEqProofs [isa, dma]
  (first | refine CallK.of (hR) (by simp) ?_ | refine CallD.of (hR) (by simp) ?_)
  simp -implicitDefEqProofs []
  (first | refine CallK.of (hR) (by simp) ?_ | refine CallD.of (hR) (by simp) ?_)
  simp -implicitDefEqProofs []
  simp only [rega] at hM
  (first | refine CallK.of (hM) (by simp) ?_ | refine CallD.of (hM) (by simp) ?_)
  have hI := sameInts_pc (G := R.G) [10, 20, 30, 40, 50] [10, 20, 30, 40, 50] (by unfold Sml; decide)
  have hI1 := sameInts_pc (G := R.G) [10] [10] (by unfold Sml; decide)
  have hIt := sameItems_pc (G := R.G) [(30, 7), (50, 2)] [(30, 7), (50, 2)] (by unfold Sml; decide)
  have hBr := sameBr_pc (G := R.G) [⟨0, 10, 1, 1⟩, ⟨1, 20, 1, 2⟩, ⟨2, 30, 2, 3⟩, ⟨2, 50, 1, 1⟩, ⟨1, 30, 2, 1⟩] [⟨0, 10, 1, 1⟩, ⟨1, 20, 1, 2⟩, ⟨2, 30, 2, 3⟩, ⟨2, 50, 1, 1⟩, ⟨1, 30, 2, 1⟩] (by unfold Sml; decide)
  have hRf := sameRefs_pc (G := R.G) [(10, 1), (10, 2), (20, 1)] [(10, 1), (10, 2), (20, 1)] (by unfold Sml; decide)
  have hCh := sameChg_pc (G := R.G) [⟨20, 2, 1⟩, ⟨30, 1, 2⟩, ⟨40, 0, 2⟩] [⟨20, 2, 1⟩, ⟨30, 1, 2⟩, ⟨40, 0, 2⟩] (by unfold Sml; decide)
  have hSi := sameIssue_pc (G := R.G) ⟨30, 2, 2, [], [⟨150, 120, 200⟩]⟩ ⟨30, 2, 2, [], [⟨150, 120, 200⟩]⟩ (by unfold Sml; decide) (by unfold Sml; decide)
  have hSm := same_pc (G := R.G) regL regL reg_wf.1
  rw [decide_eq_true rfl] at hI hI1 hIt hBr hRf hCh hSi hSm
  simp only [List.map_cons, List.map_nil, ia, ita, bra, dma, isa] at hI hI1 hIt hBr hRf hCh hSi
  simp -implicitDefEqProofs [r5]
  (first | refine CallK.of (hI) (by simp) ?_ | refine CallD.of (hI) (by simp) ?_)
  simp -implicitDefEqProofs []
  (first | refine CallK.of (itemL_pc 30 7) (by simp) ?_ | refine CallD.of (itemL_pc 30 7) (by simp) ?_)
  simp -implicitDefEqProofs []
  (first | refine CallK.of (itemL_pc 50 2) (by simp) ?_ | refine CallD.of (itemL_pc 50 2) (by simp) ?_)
  simp -implicitDefEqProofs []
  (first | refine CallK.of (hIt) (by simp) ?_ | refine CallD.of (hIt) (by simp) ?_)
  simp -implicitDefEqProofs []
  (first | refine CallK.of (hBr) (by simp) ?_ | refine CallD.of (hBr) (by simp) ?_)
  simp -implicitDefEqProofs []
  (first | refine CallK.of (hRf) (by simp) ?_ | refine CallD.of (hRf) (by simp) ?_)
  simp -implicitDefEqProofs []
  (first | refine CallK.of (hI1) (by simp) ?_ | refine CallD.of (hI1) (by simp) ?_)
  simp -implicitDefEqProofs []
  (first | refine CallK.of (hCh) (by simp) ?_ | refine CallD.of (hCh) (by simp) ?_)
  simp -implicitDefEqProofs []
  (first | refine CallK.of (hR) (by simp) ?_ | refine CallD.of (hR) (by simp) ?_)
  have e0 : rega regL = .agg [.vsl (regL.map isa)] := rfl
  have gl : regL.length = 7 := rfl
  have g4 : regL[4]? = some ⟨30, 2, 2, [], [⟨150, 120, 200⟩]⟩ := rfl
  have g4' : ∀ h : 4 < regL.length, regL[4]'h = ⟨30, 2, 2, [], [⟨150, 120, 200⟩]⟩ := fun _ => rfl
  simp -implicitDefEqProofs [e0, gl, g4, g4', isa, dma]
  (first | refine CallK.of (hSi) (by simp) ?_ | refine CallD.of (hSi) (by simp) ?_)
  simp -implicitDefEqProofs []
  (first | refine CallK.of (hR) (by simp) ?_ | refine CallD.of (hR) (by simp) ?_)
  rw [e0] at hSm ⊢
  simp -implicitDefEqProofs []
  refine CallD.of hSm (by simp [AV.pure, isa]) ?_
  simp -implicitDefEqProofs []
  exact rfl
end
end Go.Proofs.YtdpmioiamcgfkaaDoor

/-! Lists of numbers that came in. -/
namespace Go.Proofs.YtdpmioiamcgfkaaDoor
open Go.RowKit

end Go.Proofs.YtdpmioiamcgfkaaDoor

/-! What the outright laws choose: letters, drawings. -/
namespace Go.Proofs.YtdpmioiamcgfkaaDoor
open Go.RowKit

def ua (n : Int) : List AV := [.int .u32 n]
theorem bounds_u32 {n : Int} (h : (Lit.int .u32 n).wf = true) : 0 ≤ n ∧ n ≤ 4294967295 := by
  simp [Lit.wf, IntKind.min, IntKind.max, IntKind.signed, IntKind.bits] at h
  omega
theorem u32_inv {xs : List AV} (h : TVs [.int .u32] xs) : ∃ n : Int, xs = ua n ∧ (0 ≤ n ∧ n ≤ 4294967295) := by
  obtain ⟨x0, _, rfl, h0, h⟩ := h.cons_inv
  obtain rfl := h.nil_inv
  obtain ⟨n, rfl, hb⟩ := h0.int_inv
  exact ⟨n, rfl, bounds_u32 hb⟩
def chV (b : List Int) (i : Nat) : Int := if b = [] then 0 else b.getD (i % b.length) 0
def Ubs (b : List Int) : Prop := ∀ n ∈ b, 0 ≤ n ∧ n ≤ 4294967295
theorem chV_bd {b : List Int} (h : Ubs b) (i : Nat) : 0 ≤ chV b i ∧ chV b i ≤ 4294967295 := by
  unfold chV
  split
  · omega
  · rename_i hne
    have hl : 0 < b.length := List.length_pos_iff.2 hne
    have hi : i % b.length < b.length := Nat.mod_lt _ hl
    have e : b.getD (i % b.length) 0 = b[i % b.length] := by simp [List.getD_eq_getElem?_getD, hi]
    rw [e]; exact h _ (List.getElem_mem hi)
def lsE (r : List Iss) (b : List Int) (j : Nat) : Int := 1 + (chV b j).tmod (lastV r ((nums r).getD j 0))
def lsV (r : List Iss) (b : List Int) (i : Nat) : List Int := (List.range i).map (lsE r b)
theorem lsV_succ (r : List Iss) (b : List Int) (i : Nat) : lsV r b (i + 1) = lsV r b i ++ [lsE r b i] := by rw [lsV, List.range_succ, List.map_append]; rfl
theorem lsV_len (r : List Iss) (b : List Int) (i : Nat) : (lsV r b i).length = i := by simp [lsV]
theorem last_bd {r : List Iss} (hL : listedB r = true) {n : Int} (hn : n ∈ nums r) : 1 ≤ lastV r n ∧ lastV r n ≤ 8 := by
  obtain ⟨i, hi, e⟩ := nums_of (ord_of hL) hn
  have hm := List.getElem_mem hi
  have hf := find_mem hL hm
  have h1 : inR r[i].l 1 (lastV r n) = true := (find_iff hL n r[i].l).1 (by rw [← e, hf]; rfl)
  have h2 := of_decide_eq_true h1
  refine ⟨by omega, ?_⟩
  have h3 : (findN n (lastV r n) r).isSome = true := (find_iff hL n (lastV r n)).2 (decide_eq_true (by omega))
  obtain ⟨x, hx⟩ := Option.isSome_iff_exists.1 h3
  have h4 := findN_mem hx
  have h5 := listed_okN hL x h4.1
  have := h5.2.2.2
  omega
theorem tmod_bd {a b : Int} (h0 : 0 ≤ a) (h1 : 1 ≤ b) : 0 ≤ a.tmod b ∧ a.tmod b < b := ⟨Int.tmod_nonneg b h0, Int.tmod_lt_of_pos a (by omega)⟩
theorem lsV_ok {r : List Iss} (hL : listedB r = true) {b : List Int} (hb : Ubs b) : ltB r (lsV r b (nums r).length) = true := by
  simp only [ltB, Bool.and_eq_true, decide_eq_true_eq, lsV_len, true_and]
  rw [range_all]
  intro j hj
  have e : (lsV r b (nums r).length).getD j 0 = lsE r b j := by simp [lsV, List.getD_eq_getElem?_getD, hj]
  rw [e]
  have hn : (nums r).getD j 0 ∈ nums r := by
    have : (nums r).getD j 0 = (nums r)[j] := by simp [List.getD_eq_getElem?_getD, hj]
    rw [this]; exact List.getElem_mem hj
  have h1 := last_bd hL hn
  have h2 := tmod_bd (chV_bd hb j).1 h1.1
  unfold lsE
  exact decide_eq_true (by omega)
def readyB (r : List Iss) : Bool := !greatB r && decide (chkV r = 0)
theorem ready_ok {r : List Iss} (h : readyB r = true) (hk : ∀ x ∈ r, KOk x) : Wf r ∧ openV r = 0 := by
  simp only [readyB, Bool.and_eq_true, Bool.not_eq_true', decide_eq_true_eq] at h
  exact ⟨great_wf h.1 hk, by rw [open_chk]; exact h.2⟩
theorem nums_ne {r : List Iss} (hL : listedB r = true) : nums r ≠ [] := by
  have h := listed_60 hL
  have := nums_mem (ord_of hL) (show 0 < r.length by omega)
  intro e; rw [e] at this; cases this
/-- The drawing of a number. -/
def drV (r : List Iss) (n : Int) : Int := (nums r).getD (n.tmod (nums r).length).toNat 0
theorem drV_mem {r : List Iss} (hL : listedB r = true) {n : Int} (h0 : 0 ≤ n) : drV r n ∈ nums r := by
  have hl : 0 < (nums r).length := List.length_pos_iff.2 (nums_ne hL)
  have h1 := tmod_bd (b := (nums r).length) h0 (by omega)
  have hi : (n.tmod (nums r).length).toNat < (nums r).length := by omega
  rw [drV, List.getD_eq_getElem?_getD, List.getElem?_eq_getElem hi]
  exact List.getElem_mem hi
def lsS (r : List Iss) (b : List Int) : Nat → St
  | 0 => ⟨[(11, .int .i64 0), (10, .int .i64 (nums r).length), (9, .vsl ((nums r).map ia)), (5, .nils), (1, .vsl (b.map ua)), (2, .ptr 2 0)], [(2, .box [.vsl (r.map isa)])]⟩
  | i + 1 => ⟨[(11, .int .i64 (i + 1 : Nat)), (10, .int .i64 (nums r).length), (9, .vsl ((nums r).map ia)), (5, .osl 26 (i + 1)), (1, .vsl (b.map ua)), (2, .ptr 2 0)], [(2, .box [.vsl (r.map isa)]), (26, .row 1 ((lsV r b (i + 1)).map ia))]⟩

section
variable {G : Nat → Option (List AV)}

theorem ready_pc (r : List Iss) (hk : ∀ x ∈ r, KOk x) : PC Tryd.prog G 52 [rega r] (.bool (readyB r)) := by
  have hg := greatA_pc (G := G) r
  have hc := fun h => checkR_pc (G := G) r (great_wf h hk)
  rw [rega] at hg hc
  (refine pc_law02_ready (Nat.le_of_ble_eq_true rfl) fun R hG hrd => GO_AR mixed 1000 ?_; subst hG)
  simp -implicitDefEqProofs [rc_law02_ready, rr_law02_ready, rega]
  (first | refine CallK.of (hg) (by simp) ?_ | refine CallD.of (hg) (by simp) ?_)
  cases g : greatB r
  · simp -implicitDefEqProofs []
    (first | refine CallK.of (hc g) (by simp) ?_ | refine CallD.of (hc g) (by simp) ?_)
    simp -implicitDefEqProofs [readyB, g]
  · simp -implicitDefEqProofs [readyB, g]

theorem choose_pc (b : List Int) (i : Nat) (hb : Ubs b) (hi : i ≤ 1000) : PC Tryd.prog G 97 [.vsl (b.map ua), .int .i64 i] (.int .i64 (chV b i)) := by
  (refine pc_law02_choose (Nat.le_of_ble_eq_true rfl) fun R hG hrd => GO_AR mixed 1000 ?_; subst hG)
  by_cases e : b = []
  · simp -implicitDefEqProofs [rc_law02_choose, rr_law02_choose, e, chV]
  · have hl : 0 < b.length := List.length_pos_iff.2 e
    have k0 : ¬ (b.length : Int) = 0 := by omega
    have k0' : ¬ b.length = 0 := by omega
    have eq : (i : Int).tmod (b.length : Int) = ((i % b.length : Nat) : Int) := by rw [Int.tmod_eq_emod_of_nonneg (by omega)]; rfl
    have em : ((i : Int).tmod (b.length : Int)).toNat = i % b.length := by rw [eq]; rfl
    have em0 : 0 ≤ (i : Int).tmod (b.length : Int) := by rw [eq]; omega
    have hm : i % b.length < b.length := Nat.mod_lt _ hl
    have hx := hb b[i % b.length] (List.getElem_mem hm)
    have w1 : IntKind.i64.wrap b[i % b.length] = b[i % b.length] := wrapI (by omega) (by omega)
    have ev : chV b i = b[i % b.length] := by rw [chV, if_neg e]; simp [List.getD_eq_getElem?_getD, hm]
    simp -implicitDefEqProofs [rc_law02_choose, rr_law02_choose, k0, k0', em, em0, hm, ua, w1, ev]

theorem hasL_pc (l : List Int) (n : Int) (h : Sml l) : PC Tryd.prog G 57 [.vsl (l.map ia), .int .i64 n] (.bool (decide (n ∈ l))) := by
  (refine pc_law02_has (Nat.le_of_ble_eq_true rfl) fun R hG hrd => GO_AR mixed 1000 ?_; subst hG)
  simp -implicitDefEqProofs [rc_law02_has, rr_law02_has]
  (first | refine CallK.of (index_pc l n h) (by simp) ?_ | refine CallD.of (index_pc l n h) (by simp) ?_)
  have e : decide (0 ≤ idx l n) = decide (n ∈ l) := by
    have := idx_neg (l := l) (n := n)
    by_cases h : n ∈ l
    · rw [decide_eq_true h, decide_eq_true]; have : ¬ idx l n < 0 := fun h2 => (this.1 h2) h
      omega
    · rw [decide_eq_false h, decide_eq_false]; have := this.2 h
      omega
  simp -implicitDefEqProofs [e]

theorem drawing_pc (r : List Iss) (n : Int) (h : Wf r) (hL : listedB r = true) (h0 : 0 ≤ n) (h1 : n ≤ 255) : PC Tryd.prog G 54 [rega r, .int .u8 n] (.int .i64 (drV r n)) := by
  have hne : r ≠ [] := by rintro rfl; have := listed_60 hL; simp at this
  have hl : 0 < (nums r).length := List.length_pos_iff.2 (nums_ne hL)
  have hn := numbers_pc (G := G) r h.1.1 hne
  rw [rega] at hn
  have b1 := tmod_bd (b := (nums r).length) h0 (by omega)
  have hi : (n.tmod (nums r).length).toNat < (nums r).length := by omega
  have k0 : ¬ ((nums r).length : Int) = 0 := by omega
  have k0' : ¬ (nums r).length = 0 := by omega
  have w1 : IntKind.i64.wrap n = n := wrapI (by omega) (by omega)
  have ev : drV r n = (nums r)[(n.tmod (nums r).length).toNat] := by rw [drV, List.getD_eq_getElem?_getD, List.getElem?_eq_getElem hi]; rfl
  (refine pc_law02_drawing (Nat.le_of_ble_eq_true rfl) fun R hG hrd => GO_AR mixed 1000 ?_; subst hG)
  simp -implicitDefEqProofs [rc_law02_drawing, rr_law02_drawing, rega]
  (first | refine CallK.of (hn) (by simp) ?_ | refine CallD.of (hn) (by simp) ?_)
  simp -implicitDefEqProofs [w1, k0, k0', b1.1, hi, ia, ev]

theorem lettersL_pc (r : List Iss) (b : List Int) (h : Wf r) (hL : listedB r = true) (hb : Ubs b) : PC Tryd.prog G 53 [rega r, .vsl (b.map ua)] (.vsl ((lsV r b (nums r).length).map ia)) := by
  have hne : r ≠ [] := by rintro rfl; have := listed_60 hL; simp at this
  have hl : 0 < (nums r).length := List.length_pos_iff.2 (nums_ne hL)
  have hl2 := listed_20 hL
  have hn := numbers_pc (G := G) r h.1.1 hne
  rw [rega] at hn
  (refine pc_law02_letters (Nat.le_of_ble_eq_true rfl) fun R hG hrd => GO_AR mixed 1000 ?_; subst hG)
  simp -implicitDefEqProofs [rc_law02_letters, rr_law02_letters, rega]
  (first | refine CallK.of (hn) (by simp) ?_ | refine CallD.of (hn) (by simp) ?_)
  simp -implicitDefEqProofs []
  refine AR_for (lsS r b) (fun _ => True) (nums r).length (by simp only [lsS]; (first | exact Weak.tm (by simp [lk]) | exact Weak.sub (by simp [lk, keptA, AV.keys]) (by simp [lk, keptO, keptA, AV.keys]))) trivial ?_ ?_
  · intro i hi _
    refine GO_AR mixed 1000 ?_
    have hm := List.getElem_mem hi
    have lb := last_bd hL hm
    have cb := chV_bd hb i
    have lo := lastOf_pc (G := R.G) r (nums r)[i] h.1.1
    rw [rega] at lo
    have k0 : ¬ lastV r (nums r)[i] = 0 := by omega
    have tb := tmod_bd cb.1 lb.1
    have w2 : IntKind.i64.wrap (1 + (chV b i).tmod (lastV r (nums r)[i])) = 1 + (chV b i).tmod (lastV r (nums r)[i]) := wrapI (by omega) (by omega)
    have ee : lsE r b i = 1 + (chV b i).tmod (lastV r (nums r)[i]) := by rw [lsE]; simp [List.getD_eq_getElem?_getD, hi]
    have sc := lsV_succ r b i
    rw [ee] at sc
    have ln := lsV_len r b i
    cases i with
    | zero =>
      have w1 : IntKind.i64.wrap 1 = 1 := rfl
      have sc0 : lsV r b 1 = [1 + (chV b 0).tmod (lastV r (nums r)[0])] := by rw [sc]; rfl
      simp -implicitDefEqProofs [lsS, hi, ia]
      (first | refine CallK.of (choose_pc b 0 hb (by omega)) (by simp) ?_ | refine CallD.of (choose_pc b 0 hb (by omega)) (by simp) ?_)
      simp -implicitDefEqProofs []
      (first | refine CallK.of (lo) (by simp) ?_ | refine CallD.of (lo) (by simp) ?_)
      simp -implicitDefEqProofs [k0, w2, w1]
      refine ⟨rfl, ?_⟩
      exact Weak.sub (by simp [lsS, lk, keptA, AV.keys]) (by simp [lsS, lk, keptO, keptA, AV.keys, sc0, ia])
    | succ i =>
      have w1 : IntKind.i64.wrap ((i : Int) + 1 + 1) = (i : Int) + 1 + 1 := wrapI (by omega) (by omega)
      have k1 : (i : Int) + 1 < (nums r).length := by omega
      have k2 : ((i : Int) + 1).toNat = i + 1 := by omega
      have k3 : (0 : Int) ≤ (i : Int) + 1 := by omega
      have b2 : (i + 1 + 1) * 8 ≤ 70368744177664 := by omega
      have hc := choose_pc (G := R.G) b (i + 1) hb (by omega)
      rw [Int.natCast_add, Int.natCast_one] at hc
      simp -implicitDefEqProofs [lsS, hi, k1, k2, k3, ia]
      (first | refine CallK.of (hc) (by simp) ?_ | refine CallD.of (hc) (by simp) ?_)
      simp -implicitDefEqProofs []
      (first | refine CallK.of (lo) (by simp) ?_ | refine CallD.of (lo) (by simp) ?_)
      simp -implicitDefEqProofs [k0, w2, w1, ln, b2]
      refine ⟨rfl, ?_⟩
      have e1 : (lsV r b (i + 1)).map ia ++ [[AV.int .i64 (1 + (chV b (i + 1)).tmod (lastV r (nums r)[i + 1]))]] = (lsV r b (i + 1 + 1)).map ia := by rw [sc, List.map_append]; rfl
      rw [e1]
      ((try simp only [lsS]); refine Weak.sub (by simp [lk, keptA, AV.keys, lsS]) ?_; simp only [lsS, List.cons_append, List.nil_append, List.mem_cons, List.not_mem_nil, or_false, forall_eq_or_imp, forall_eq, ia_kept, and_true]; (try simp [lk, keptO, keptA, AV.keys, lsS]))
  · intro _
    refine GO_AR mixed 1000 ?_
    obtain ⟨n, hn⟩ : ∃ n, (nums r).length = n + 1 := ⟨(nums r).length - 1, by omega⟩
    have k1 : ¬ (n : Int) + 1 < n + 1 := by omega
    have pu : ((lsV r b (n + 1)).map ia).all (fun x => x.all AV.pure) = true := by simp [ia, AV.pure]
    have ln := lsV_len r b (n + 1)
    rw [hn]
    simp -implicitDefEqProofs [lsS, hn, k1]
    refine GO_ret mixed 1000 ?_
    simp -implicitDefEqProofs [pu, ln]
end
end Go.Proofs.YtdpmioiamcgfkaaDoor

/-! Another letter of a drawing: plain. -/
namespace Go.Proofs.YtdpmioiamcgfkaaDoor
open Go.RowKit

theorem ab_iff {r : List Iss} {lt : List Int} {d n : Int} (hn : n ∈ nums r) : n ∈ abV r lt d ↔ Up (tkV r lt) (nums r) d n := by
  simp only [abV, List.mem_filter, decide_eq_true_eq, upV_iff]
  exact ⟨fun h => h.2, fun h => ⟨hn, h⟩⟩
theorem ask_ok {r : List Iss} {lt : List Int} {n : Int} (ho : openV r = 0) (hlt : ltB r lt = true) (hn : n ∈ nums r) : askV r lt n = 0 := by simp [askV, ho, hlt, hn]
end Go.Proofs.YtdpmioiamcgfkaaDoor

/-! The law SheetLetter, by the abstract machine. -/
namespace Go.Proofs.YtdpmioiamcgfkaaDoor
open Go.RowKit
section
variable {G : Nat → Option (List AV)}

end
end Go.Proofs.YtdpmioiamcgfkaaDoor

/-! What is above a drawing, and what is in trees: plain. -/
namespace Go.Proofs.YtdpmioiamcgfkaaDoor
open Go.RowKit

theorem usN_pre (r : List Iss) (n : Int) {i : Nat} : ∀ {j : Nat}, i ≤ j → j ≤ r.length → ∃ t, usN r n j = usN r n i ++ t
  | 0, h, _ => by obtain rfl : i = 0 := by omega
                  exact ⟨[], by simp⟩
  | j + 1, h, hj => by
    rcases Nat.lt_or_ge i (j + 1) with h1 | h1
    · obtain ⟨t, e⟩ := usN_pre r n (i := i) (j := j) (by omega) (by omega)
      rw [usN_succ (show j < r.length by omega)]
      split
      · exact ⟨t ++ [(r[j].d, r[j].l)], by rw [e, List.append_assoc]⟩
      · exact ⟨t, e⟩
    · obtain rfl : i = j + 1 := by omega
      exact ⟨[], by simp⟩
theorem usN_at {r : List Iss} {n : Int} {i : Nat} (hi : i < r.length) (h : needL n r[i].its = true) : (usN r n r.length)[(usN r n i).length]? = some (r[i].d, r[i].l) := by
  obtain ⟨t, e⟩ := usN_pre r n (i := i + 1) (j := r.length) (by omega) (Nat.le_refl _)
  rw [usN_succ hi, if_pos h] at e
  rw [e, List.append_assoc, List.getElem?_append_right (Nat.le_refl _), Nat.sub_self]
  rfl
theorem needs_up {r : List Iss} {lt : List Int} {d x : Int} (hin : ∀ y ∈ (tkV r lt x).its, y.1 ∈ nums r) (hx : x ∈ nums r) : (tkV r lt x).its.any (fun z => decide (z.1 = d) || decide (z.1 ∈ abV r lt d)) = decide (x ∈ abV r lt d) := by
  rw [Bool.eq_iff_iff, List.any_eq_true, decide_eq_true_eq, ab_iff hx]
  constructor
  · rintro ⟨z, hz, h⟩
    rw [Bool.or_eq_true, decide_eq_true_eq, decide_eq_true_eq] at h
    rcases h with h | h
    · exact .base x hx (need_iff.2 ⟨z, hz, h⟩)
    · exact .step x z.1 hx (need_iff.2 ⟨z, hz, rfl⟩) ((ab_iff (hin z hz)).1 h)
  · intro h
    cases h with
    | base _ _ h1 =>
      obtain ⟨z, hz, e⟩ := need_iff.1 h1
      exact ⟨z, hz, by simp [e]⟩
    | step _ m _ h1 hm =>
      obtain ⟨z, hz, e⟩ := need_iff.1 h1
      subst e
      exact ⟨z, hz, by simp [(ab_iff (hin z hz)).2 hm]⟩
/-- Whether a drawing is in a tree, behind its root. -/
def inT (l : List Brn) (d : Int) (j : Nat) : Bool := ((l.take j).drop 1).any fun b => decide (b.d = d)
theorem inT_succ {l : List Brn} {d : Int} {j : Nat} (h : j < l.length) : inT l d (j + 1) = (inT l d j || (decide (0 < j) && decide (l[j].d = d))) := by
  unfold inT
  rw [List.take_succ_eq_append_getElem h]
  by_cases h0 : j = 0
  · subst h0; simp
  · rw [List.drop_append_of_le_length (by simp; omega), List.any_append]
    have : 0 < j := by omega
    simp [this]
theorem tr_cons (T : Int → Iss) (k : Nat) (dep x c : Int) : trV T (k + 1) dep x c = ⟨dep, x, (T x).l, c⟩ :: (T x).its.flatMap fun y => trV T k (dep + 1) y.1 y.2 := rfl
theorem tr_up {r : List Iss} {lt : List Int} {d : Int} (ho : openV r = 0) (hlt : ltB r lt = true) : ∀ (k : Nat) (dep x c : Int), x ∈ nums r → dpN r x ≤ k → ((∃ b ∈ (trV (tkV r lt) k dep x c).drop 1, b.d = d) ↔ Up (tkV r lt) (nums r) d x)
  | 0, _, x, _, hx, hd => (dp_pos ho hx hd).elim
  | k + 1, dep, x, c, hx, hd => by
    have hL := open_listed ho
    rw [tr_cons, List.drop_succ_cons, List.drop_zero]
    have hit := tk_its hL hlt hx
    constructor
    · rintro ⟨b, hb, e⟩
      obtain ⟨y, hy, hb⟩ := List.mem_flatMap.1 hb
      obtain ⟨hyn, hyd⟩ := dp_its ho hlt hx hd hy
      match k, hyd, hb with
      | 0, hyd, _ => exact (dp_pos ho hyn hyd).elim
      | k + 1, hyd, hb =>
        have ih := tr_up ho hlt (d := d) (k + 1) (dep + 1) y.1 y.2 hyn hyd
        rw [tr_cons, List.drop_succ_cons, List.drop_zero] at ih
        rw [tr_cons] at hb
        rcases List.mem_cons.1 hb with rfl | hb
        · exact .base x hx (need_iff.2 ⟨y, hy, e⟩)
        · exact .step x y.1 hx (need_iff.2 ⟨y, hy, rfl⟩) (ih.1 ⟨b, hb, e⟩)
    · intro h
      have key : ∃ y ∈ (tkV r lt x).its, y.1 = d ∨ Up (tkV r lt) (nums r) d y.1 := by
        cases h with
        | base _ _ h1 =>
          obtain ⟨z, hz, e⟩ := need_iff.1 h1
          exact ⟨z, hz, .inl e⟩
        | step _ m _ h1 hm =>
          obtain ⟨z, hz, e⟩ := need_iff.1 h1
          subst e
          exact ⟨z, hz, .inr hm⟩
      obtain ⟨y, hy, hc⟩ := key
      obtain ⟨hyn, hyd⟩ := dp_its ho hlt hx hd hy
      match k, hyd with
      | 0, hyd => exact (dp_pos ho hyn hyd).elim
      | k + 1, hyd =>
        have ih := tr_up ho hlt (d := d) (k + 1) (dep + 1) y.1 y.2 hyn hyd
        rw [tr_cons, List.drop_succ_cons, List.drop_zero] at ih
        rcases hc with e | hu
        · exact ⟨⟨dep + 1, y.1, (tkV r lt y.1).l, y.2⟩, List.mem_flatMap.2 ⟨y, hy, by rw [tr_cons]; exact List.mem_cons_self⟩, e⟩
        · obtain ⟨b, hb, e⟩ := ih.2 hu
          exact ⟨b, List.mem_flatMap.2 ⟨y, hy, by rw [tr_cons]; exact List.mem_cons_of_mem _ hb⟩, e⟩
theorem trE_in {r : List Iss} {lt : List Int} {d x : Int} (ho : openV r = 0) (hlt : ltB r lt = true) (hx : x ∈ nums r) (h : (trE r lt x).2 = 0) : inT (trE r lt x).1 d (trE r lt x).1.length = decide (x ∈ abV r lt d) := by
  have h6 := (dpN_bd ho hx).2
  unfold trE at h ⊢
  rw [if_pos (ask_ok ho hlt hx)] at h ⊢
  split at h
  · cases h
  · rename_i hc
    rw [if_neg hc]
    simp only
    rw [Bool.eq_iff_iff, decide_eq_true_eq, ab_iff hx, ← tr_up ho hlt (d := d) 6 0 x 1 hx h6]
    simp [inT, List.take_length]
theorem ab_sorted {r : List Iss} {lt : List Int} {d : Int} (hL : listedB r = true) : (abV r lt d).Pairwise (· < ·) := ((numsN_spec (ord_of hL) r.length (Nat.le_refl _)).1).filter _
theorem ab_prev {r : List Iss} {lt : List Int} {d : Int} (hL : listedB r = true) {i : Nat} (h : i + 1 < (abV r lt d).length) : (abV r lt d)[i] < (abV r lt d)[i + 1] :=
  List.pairwise_iff_getElem.1 (ab_sorted hL) i (i + 1) (by omega) h (by omega)
end Go.Proofs.YtdpmioiamcgfkaaDoor

/-! The law SheetAbove, by the abstract machine. -/
namespace Go.Proofs.YtdpmioiamcgfkaaDoor
open Go.RowKit

def avC (r : List Iss) (lt : List Int) (D X : Int) : List (Nat × AV) :=
  [(10, .vsl (lt.map ia)), (11, .int .i64 D), (12, .int .i64 X), (13, .vsl ((abV r lt D).map ia)), (15, .vsl ((usN r D r.length).map ita)), (9, .bool true), (4, .ptr 4 0)]
def avB (r : List Iss) : List (Nat × AObj) := [(4, .box [.vsl (r.map isa)])]
def avU (r : List Iss) (lt : List Int) (D X : Int) (i : Nat) : St := ⟨(72, .int .i64 i) :: (71, .int .i64 r.length) :: (70, .vsl (r.map isa)) :: (17, .int .i64 (usN r D i).length) :: avC r lt D X, avB r⟩
def ndB (r : List Iss) (lt : List Int) (D : Int) (its : List (Int × Int)) (j : Nat) : Bool := (its.take j).any fun z => decide (z.1 = D) || decide (z.1 ∈ abV r lt D)
theorem ndB_succ {r : List Iss} {lt : List Int} {D : Int} {its : List (Int × Int)} {j : Nat} (h : j < its.length) : ndB r lt D its (j + 1) = (ndB r lt D its j || (decide (its[j].1 = D) || decide (its[j].1 ∈ abV r lt D))) := by
  unfold ndB
  rw [List.take_succ_eq_append_getElem h, List.any_append]
  simp
def avN (r : List Iss) (lt : List Int) (D X : Int) (its : List (Int × Int)) (j : Nat) : St := ⟨(121, .int .i64 j) :: (120, .int .i64 its.length) :: (119, .vsl (its.map ita)) :: (22, .bool (ndB r lt D its j)) :: avC r lt D X, avB r⟩
def avT (r : List Iss) (lt : List Int) (D X : Int) (nd : Bool) (j : Nat) : St := ⟨(148, .int .i64 j) :: (147, .int .i64 (trE r lt X).1.length) :: (146, .vsl ((trE r lt X).1.map bra)) :: (27, .bool (inT (trE r lt X).1 D j)) :: (22, .bool nd) :: (26, .int .i64 (trE r lt X).2) :: avC r lt D X, avB r⟩
def avH (r : List Iss) (lt : List Int) (D X : Int) (nd is : Bool) (j : Nat) : St := ⟨(167, .int .i64 j) :: (166, .int .i64 (abV r lt D).length) :: (165, .vsl ((abV r lt D).map ia)) :: (27, .bool is) :: (22, .bool nd) :: (26, .int .i64 (trE r lt X).2) :: avC r lt D X, avB r⟩
section
variable {G : Nat → Option (List AV)}

theorem refOf_pc (x : Iss) : PC Tryd.prog G 61 [.agg (isa x)] (.agg [.int .i64 x.d, .int .i64 x.l]) := by
  (refine pc_ref02_RefOf (Nat.le_of_ble_eq_true rfl) fun R hG hrd => GO_AR mixed 1000 ?_; subst hG)
  simp -implicitDefEqProofs [rc_ref02_RefOf, rr_ref02_RefOf, isa]

set_option maxHeartbeats 4000000 in
set_option maxRecDepth 100000 in
theorem above_pc (hG : GC G) (r : List Iss) (b : List Int) (w k : Int) (hk : ∀ x ∈ r, KOk x) (hb : Ubs b) (w0 : 0 ≤ w ∧ w ≤ 255) (k0 : 0 ≤ k ∧ k ≤ 255) :
    PC Tryd.prog G 10 [rega r, .vsl (b.map ua), .int .u8 w, .int .u8 k] (.bool true) := by
  have hA := alive_pc hG
  have hrd0 := ready_pc (G := G) r hk
  cases hr : readyB r
  · rw [hr] at hrd0
    rw [rega] at hrd0
    (refine pc_law02_SheetAbove (Nat.le_of_ble_eq_true rfl) fun R hG hrd => GO_AR mixed 1000 ?_; subst hG)
    simp -implicitDefEqProofs [rc_law02_SheetAbove, rr_law02_SheetAbove, rega]
    (first | refine CallK.of (hA) (by simp) ?_ | refine CallD.of (hA) (by simp) ?_)
    simp -implicitDefEqProofs []
    (first | refine CallK.of (hrd0) (by simp) ?_ | refine CallD.of (hrd0) (by simp) ?_)
    simp -implicitDefEqProofs []
  obtain ⟨h, ho⟩ := ready_ok hr hk
  have hL := open_listed ho
  have hne : r ≠ [] := by rintro rfl; have := listed_60 hL; simp at this
  have hlt := lsV_ok hL hb
  have hd := drV_mem hL w0.1
  have hx := drV_mem hL k0.1
  have hls := lettersL_pc (G := G) r b h hL hb
  have hdr := drawing_pc (G := G) r w h hL w0.1 w0.2
  have hdk := drawing_pc (G := G) r k h hL k0.1 k0.2
  have hnm := numbers_pc (G := G) r h.1.1 hne
  have hns : Sml (nums r) := by have := listed_20 hL; unfold Sml; omega
  have hix := index_pc (G := G) (nums r) (drV r k) hns
  have hix2 : idx (nums r) (drV r k) = ((nums r).idxOf (drV r k) : Int) := by rw [idx, if_pos hx]
  have hil := (nums_idx hx).1
  have hll := lsV_len r b (nums r).length
  have hab := aboveP_pc hG r (lsV r b (nums r).length) (drV r w) h
  have ea1 : abE r (lsV r b (nums r).length) (drV r w) = (abV r (lsV r b (nums r).length) (drV r w), 0) := by simp [abE, ask_ok ho hlt hd]
  rw [ea1] at hab
  have hus := usesP_pc hG r (drV r w) h
  have kn0 : knV r (drV r w) = 0 := by simp [knV, ho, hd]
  have eu : useE r (drV r w) = (usN r (drV r w) r.length, 0) := by simp [useE, kn0]
  rw [eu] at hus
  have sa : Sml (abV r (lsV r b (nums r).length) (drV r w)) := by have := abE_sml (lt := lsV r b (nums r).length) (n := drV r w) h.1.1; rw [ea1] at this; exact this
  have hh := fun n => hasL_pc (G := G) (abV r (lsV r b (nums r).length) (drV r w)) n sa
  have hhn := fun n => hasL_pc (G := G) (nums r) n hns
  have htr := treeP_pc hG r (lsV r b (nums r).length) (drV r k) h
  have ltk : ∀ hh : (nums r).idxOf (drV r k) < (lsV r b (nums r).length).length, (lsV r b (nums r).length)[(nums r).idxOf (drV r k)]'hh = ltOf r (lsV r b (nums r).length) (drV r k) := fun hh => by
    rw [ltOf, List.getD_eq_getElem?_getD, List.getElem?_eq_getElem hh]; rfl
  have hfx := tk_some hL hlt hx
  have hat := at_pc hG r (drV r k) (ltOf r (lsV r b (nums r).length) (drV r k)) h
  have ev : atP r (drV r k) (ltOf r (lsV r b (nums r).length) (drV r k)) = (tkV r (lsV r b (nums r).length) (drV r k), 0) := by simp [atP, ho, hfx]
  rw [ev] at hat
  have hnd := needs_up (d := drV r w) (tk_its hL hlt hx) hx
  have htin := trE_in (d := drV r w) ho hlt hx
  have htl := trE_sml (r := r) (lt := lsV r b (nums r).length) (n := drV r k)
  have hsx := h.1.2 _ (tk_mem hL hlt hx).1
  have hprev := fun i => ab_prev (lt := lsV r b (nums r).length) (d := drV r w) hL (i := i)
  have hmem : ∀ u ∈ abV r (lsV r b (nums r).length) (drV r w), u ∈ nums r := fun u hu => (List.mem_filter.1 hu).1
  have hte : (trE r (lsV r b (nums r).length) (drV r k)).2 = 0 ∨ (trE r (lsV r b (nums r).length) (drV r k)).2 = 4 := by
    unfold trE
    rw [if_pos (ask_ok ho hlt hx)]
    split
    · exact .inr rfl
    · exact .inl rfl
  have h60 := listed_60 hL
  rw [hr] at hrd0
  rw [hix2] at hix
  rw [rega] at hrd0 hls hdr hdk hnm hab hus htr hat
  generalize hD : drV r w = D at *
  generalize hX : drV r k = X at *
  generalize hI : (nums r).idxOf X = I at *
  generalize hlt0 : lsV r b (nums r).length = lt at *
  generalize hx0 : tkV r lt X = x at *
  have ex : isa x = [.int .i64 x.d, .int .i64 x.l, .int .u8 x.k, .vsl (x.its.map ita), .vsl (x.dms.map dma)] := rfl
  have iI : I < lt.length := by omega
  have lI := ltk iI
  (refine pc_law02_SheetAbove (Nat.le_of_ble_eq_true rfl) fun R hG hrd => GO_AR mixed 1000 ?_; subst hG)
  simp -implicitDefEqProofs [rc_law02_SheetAbove, rr_law02_SheetAbove, rega]
  (first | refine CallK.of (hA) (by simp) ?_ | refine CallD.of (hA) (by simp) ?_)
  simp -implicitDefEqProofs []
  (first | refine CallK.of (hrd0) (by simp) ?_ | refine CallD.of (hrd0) (by simp) ?_)
  simp -implicitDefEqProofs []
  (first | refine CallK.of (hls) (by simp) ?_ | refine CallD.of (hls) (by simp) ?_)
  simp -implicitDefEqProofs []
  (first | refine CallK.of (hdr) (by simp) ?_ | refine CallD.of (hdr) (by simp) ?_)
  simp -implicitDefEqProofs []
  (first | refine CallK.of (hdk) (by simp) ?_ | refine CallD.of (hdk) (by simp) ?_)
  simp -implicitDefEqProofs []
  refine ⟨rfl, ?_⟩
  (first | refine CallK.of (hab) (by simp) ?_ | refine CallD.of (hab) (by simp) ?_)
  simp -implicitDefEqProofs []
  (first | refine CallK.of (hus) (by simp) ?_ | refine CallD.of (hus) (by simp) ?_)
  simp -implicitDefEqProofs []
  refine AR_for (avU r lt D X) (fun _ => True) r.length ?_ trivial ?_ ?_
  · ((try simp only [avU, avC, avB, usN, List.take_zero, List.filter_nil, List.map_nil]); refine Weak.sub (by simp [lk, keptA, AV.keys, avU, avC, avB, usN, List.take_zero, List.filter_nil, List.map_nil]) ?_; simp only [avU, avC, avB, usN, List.take_zero, List.filter_nil, List.map_nil, List.cons_append, List.nil_append, List.mem_cons, List.not_mem_nil, or_false, forall_eq_or_imp, forall_eq, and_true, and_true]; (try simp [lk, keptO, keptA, AV.keys, avU, avC, avB, usN, List.take_zero, List.filter_nil, List.map_nil]))
  · intro i hi _
    refine GO_AR mixed 1000 ?_
    have hxi := h.1.2 r[i] (List.getElem_mem hi)
    have hiss := listed_iss hL (List.getElem_mem hi)
    have hcn := ct_need (n := D) (its_pos hiss)
    have w2 : IntKind.i64.wrap ((i : Int) + 1) = (i : Int) + 1 := wrapI (by omega) (by omega)
    have us := usN_succ (n := D) hi
    have ul := usN_len r D i
    have ei : isa r[i] = [.int .i64 r[i].d, .int .i64 r[i].l, .int .u8 r[i].k, .vsl (r[i].its.map ita), .vsl (r[i].dms.map dma)] := rfl
    cases q : needL D r[i].its
    · rw [if_neg (by simp [q])] at us
      have c1 : ¬ 0 < ctL D r[i].its := fun hc => by rw [hcn.1 hc] at q; cases q
      simp -implicitDefEqProofs [avU, avC, avB, hi, ei]
      (first | refine CallK.of (countOf_pc r[i] D hxi.1) (by simp) ?_ | refine CallD.of (countOf_pc r[i] D hxi.1) (by simp) ?_)
      simp -implicitDefEqProofs [c1, w2]
      ((try simp only [avU, avC, avB, us]); refine Weak.sub (by simp [lk, keptA, AV.keys, avU, avC, avB, us]) ?_; simp only [avU, avC, avB, us, List.cons_append, List.nil_append, List.mem_cons, List.not_mem_nil, or_false, forall_eq_or_imp, forall_eq, and_true, and_true]; (try simp [lk, keptO, keptA, AV.keys, avU, avC, avB, us]))
    · rw [if_pos q] at us
      have c1 : 0 < ctL D r[i].its := hcn.2 q
      have ua0 := usN_at hi q
      obtain ⟨q1, g1⟩ := List.getElem?_eq_some_iff.1 ua0
      have c2 : ¬ (usN r D r.length).length ≤ (usN r D i).length := by omega
      have w3 : IntKind.i64.wrap (((usN r D i).length : Int) + 1) = ((usN r D (i + 1)).length : Nat) := by rw [us, List.length_append, wrapI (by omega) (by omega)]; simp
      generalize hU : usN r D (i + 1) = U1 at *
      simp -implicitDefEqProofs [avU, avC, avB, hi, ei]
      (first | refine CallK.of (countOf_pc r[i] D hxi.1) (by simp) ?_ | refine CallD.of (countOf_pc r[i] D hxi.1) (by simp) ?_)
      simp -implicitDefEqProofs [c1, c2, q1, g1, ita]
      (first | refine CallK.of (refOf_pc r[i]) (by simp) ?_ | refine CallD.of (refOf_pc r[i]) (by simp) ?_)
      simp -implicitDefEqProofs [w2, w3]
      refine ⟨rfl, ?_⟩
      ((try simp only [avU, avC, avB, hU]); refine Weak.sub (by simp [lk, keptA, AV.keys, avU, avC, avB, hU]) ?_; simp only [avU, avC, avB, hU, List.cons_append, List.nil_append, List.mem_cons, List.not_mem_nil, or_false, forall_eq_or_imp, forall_eq, and_true, and_true]; (try simp [lk, keptO, keptA, AV.keys, avU, avC, avB, hU]))
  intro _
  refine GO_AR mixed 1000 ?_
  simp -implicitDefEqProofs [avU, avC, avB]
  refine GO_ret mixed 1000 ?_
  simp -implicitDefEqProofs []
  (first | refine CallK.of (hnm) (by simp) ?_ | refine CallD.of (hnm) (by simp) ?_)
  simp -implicitDefEqProofs []
  (first | refine CallK.of (hix) (by simp) ?_ | refine CallD.of (hix) (by simp) ?_)
  simp -implicitDefEqProofs [iI, ia, lI]
  (first | refine CallK.of (hat) (by simp) ?_ | refine CallD.of (hat) (by simp) ?_)
  simp -implicitDefEqProofs [ex]
  refine ⟨rfl, ?_⟩
  have hxs := hsx.1
  refine AR_for (avN r lt D X x.its) (fun _ => True) x.its.length ?_ trivial ?_ ?_
  · ((try simp only [avN, avC, avB, ndB, List.take_zero, List.any_nil]); refine Weak.sub (by simp [lk, keptA, AV.keys, avN, avC, avB, ndB, List.take_zero, List.any_nil]) ?_; simp only [avN, avC, avB, ndB, List.take_zero, List.any_nil, List.cons_append, List.nil_append, List.mem_cons, List.not_mem_nil, or_false, forall_eq_or_imp, forall_eq, and_true, and_true]; (try simp [lk, keptO, keptA, AV.keys, avN, avC, avB, ndB, List.take_zero, List.any_nil]))
  · intro j hj _
    refine GO_AR mixed 1000 ?_
    have w2 : IntKind.i64.wrap ((j : Int) + 1) = (j : Int) + 1 := by unfold Sml at hxs; exact wrapI (by omega) (by omega)
    have sc := ndB_succ (r := r) (lt := lt) (D := D) hj
    cases q1 : ndB r lt D x.its j
    · rw [q1] at sc
      by_cases q2 : x.its[j].1 = D
      · rw [decide_eq_true q2] at sc
        simp -implicitDefEqProofs [avN, avC, avB, hj, ita, q1, q2, w2]
        ((try simp only [avN, avC, avB, sc]); refine Weak.sub (by simp [lk, keptA, AV.keys, avN, avC, avB, sc]) ?_; simp only [avN, avC, avB, sc, List.cons_append, List.nil_append, List.mem_cons, List.not_mem_nil, or_false, forall_eq_or_imp, forall_eq, and_true, and_true]; (try simp [lk, keptO, keptA, AV.keys, avN, avC, avB, sc]))
      · rw [decide_eq_false q2] at sc
        simp -implicitDefEqProofs [avN, avC, avB, hj, ita, q1, q2]
        (first | refine CallK.of (hh x.its[j].1) (by simp) ?_ | refine CallD.of (hh x.its[j].1) (by simp) ?_)
        simp -implicitDefEqProofs [w2]
        ((try simp only [avN, avC, avB, sc]); refine Weak.sub (by simp [lk, keptA, AV.keys, avN, avC, avB, sc]) ?_; simp only [avN, avC, avB, sc, List.cons_append, List.nil_append, List.mem_cons, List.not_mem_nil, or_false, forall_eq_or_imp, forall_eq, and_true, and_true]; (try simp [lk, keptO, keptA, AV.keys, avN, avC, avB, sc]))
    · rw [q1] at sc
      simp -implicitDefEqProofs [avN, avC, avB, hj, ita, q1, w2]
      ((try simp only [avN, avC, avB, sc]); refine Weak.sub (by simp [lk, keptA, AV.keys, avN, avC, avB, sc]) ?_; simp only [avN, avC, avB, sc, List.cons_append, List.nil_append, List.mem_cons, List.not_mem_nil, or_false, forall_eq_or_imp, forall_eq, and_true, and_true]; (try simp [lk, keptO, keptA, AV.keys, avN, avC, avB, sc]))
  intro _
  refine GO_AR mixed 1000 ?_
  have ndE : ndB r lt D x.its x.its.length = decide (X ∈ abV r lt D) := by rw [← hnd, ndB, List.take_length]
  simp -implicitDefEqProofs [avN, avC, avB, ndE]
  refine GO_ret mixed 1000 ?_
  simp -implicitDefEqProofs []
  (first | refine CallK.of (htr) (by simp) ?_ | refine CallD.of (htr) (by simp) ?_)
  simp -implicitDefEqProofs []
  refine AR_for (avT r lt D X (decide (X ∈ abV r lt D))) (fun _ => True) (trE r lt X).1.length ?_ trivial ?_ ?_
  · ((try simp only [avT, avC, avB, inT, List.take_zero, List.drop_nil, List.any_nil]); refine Weak.sub (by simp [lk, keptA, AV.keys, avT, avC, avB, inT, List.take_zero, List.drop_nil, List.any_nil]) ?_; simp only [avT, avC, avB, inT, List.take_zero, List.drop_nil, List.any_nil, List.cons_append, List.nil_append, List.mem_cons, List.not_mem_nil, or_false, forall_eq_or_imp, forall_eq, and_true, and_true]; (try simp [lk, keptO, keptA, AV.keys, avT, avC, avB, inT, List.take_zero, List.drop_nil, List.any_nil]))
  · intro j hj _
    refine GO_AR mixed 1000 ?_
    have w2 : IntKind.i64.wrap ((j : Int) + 1) = (j : Int) + 1 := by unfold Sml at htl; exact wrapI (by omega) (by omega)
    have sc := inT_succ (d := D) hj
    cases q1 : inT (trE r lt X).1 D j
    · rw [q1] at sc
      by_cases q0 : 0 < j
      · have q0' : (0 : Int) < j := by omega
        rw [decide_eq_true q0] at sc
        by_cases q2 : (trE r lt X).1[j].d = D
        · rw [decide_eq_true q2] at sc
          simp -implicitDefEqProofs [avT, avC, avB, hj, bra, q1, q0, q2, w2]
          ((try simp only [avT, avC, avB, sc]); refine Weak.sub (by simp [lk, keptA, AV.keys, avT, avC, avB, sc]) ?_; simp only [avT, avC, avB, sc, List.cons_append, List.nil_append, List.mem_cons, List.not_mem_nil, or_false, forall_eq_or_imp, forall_eq, and_true, and_true]; (try simp [lk, keptO, keptA, AV.keys, avT, avC, avB, sc]))
        · rw [decide_eq_false q2] at sc
          simp -implicitDefEqProofs [avT, avC, avB, hj, bra, q1, q0, q2, w2]
          ((try simp only [avT, avC, avB, sc]); refine Weak.sub (by simp [lk, keptA, AV.keys, avT, avC, avB, sc]) ?_; simp only [avT, avC, avB, sc, List.cons_append, List.nil_append, List.mem_cons, List.not_mem_nil, or_false, forall_eq_or_imp, forall_eq, and_true, and_true]; (try simp [lk, keptO, keptA, AV.keys, avT, avC, avB, sc]))
      · rw [decide_eq_false q0] at sc
        simp -implicitDefEqProofs [avT, avC, avB, hj, bra, q1, q0, w2]
        ((try simp only [avT, avC, avB, sc]); refine Weak.sub (by simp [lk, keptA, AV.keys, avT, avC, avB, sc]) ?_; simp only [avT, avC, avB, sc, List.cons_append, List.nil_append, List.mem_cons, List.not_mem_nil, or_false, forall_eq_or_imp, forall_eq, and_true, and_true]; (try simp [lk, keptO, keptA, AV.keys, avT, avC, avB, sc]))
    · rw [q1] at sc
      simp -implicitDefEqProofs [avT, avC, avB, hj, bra, q1, w2]
      ((try simp only [avT, avC, avB, sc]); refine Weak.sub (by simp [lk, keptA, AV.keys, avT, avC, avB, sc]) ?_; simp only [avT, avC, avB, sc, List.cons_append, List.nil_append, List.mem_cons, List.not_mem_nil, or_false, forall_eq_or_imp, forall_eq, and_true, and_true]; (try simp [lk, keptO, keptA, AV.keys, avT, avC, avB, sc]))
  intro _
  refine GO_AR mixed 1000 ?_
  generalize hIS : inT (trE r lt X).1 D (trE r lt X).1.length = is at *
  simp -implicitDefEqProofs [avT, avC, avB, hIS]
  refine GO_ret mixed 1000 ?_
  simp -implicitDefEqProofs []
  refine AR_for (avH r lt D X (decide (X ∈ abV r lt D)) is) (fun _ => True) (abV r lt D).length ?_ trivial ?_ ?_
  · ((try simp only [avH, avC, avB]); refine Weak.sub (by simp [lk, keptA, AV.keys, avH, avC, avB]) ?_; simp only [avH, avC, avB, List.cons_append, List.nil_append, List.mem_cons, List.not_mem_nil, or_false, forall_eq_or_imp, forall_eq, and_true, and_true]; (try simp [lk, keptO, keptA, AV.keys, avH, avC, avB]))
  · intro j hj _
    refine GO_AR mixed 1000 ?_
    have hm := hmem _ (List.getElem_mem hj)
    have w2 : IntKind.i64.wrap ((j : Int) + 1) = (j : Int) + 1 := by unfold Sml at sa; exact wrapI (by omega) (by omega)
    cases j with
    | zero =>
      simp -implicitDefEqProofs [avH, avC, avB, hj, ia]
      (first | refine CallK.of (hnm) (by simp) ?_ | refine CallD.of (hnm) (by simp) ?_)
      simp -implicitDefEqProofs []
      (first | refine CallK.of (hhn (abV r lt D)[0]) (by simp) ?_ | refine CallD.of (hhn (abV r lt D)[0]) (by simp) ?_)
      have w1 : IntKind.i64.wrap 1 = 1 := rfl
      simp -implicitDefEqProofs [hm, w1]
      ((try simp only [avH, avC, avB]); refine Weak.sub (by simp [lk, keptA, AV.keys, avH, avC, avB]) ?_; simp only [avH, avC, avB, List.cons_append, List.nil_append, List.mem_cons, List.not_mem_nil, or_false, forall_eq_or_imp, forall_eq, and_true, and_true]; (try simp [lk, keptO, keptA, AV.keys, avH, avC, avB]))
    | succ j =>
      have hp := hprev j hj
      have hp' : ¬ (abV r lt D)[j + 1] ≤ (abV r lt D)[j] := by omega
      have k1 : (j : Int) + 1 < (abV r lt D).length := by omega
      have k2 : ((j : Int) + 1).toNat = j + 1 := by omega
      have k3 : (0 : Int) ≤ (j : Int) + 1 := by omega
      have k4 : j < (abV r lt D).length := by omega
      have k5 : (0 : Int) < (j : Int) + 1 := by omega
      have w4 : IntKind.i64.wrap (j : Int) = j := by unfold Sml at sa; exact wrapI (by omega) (by omega)
      simp -implicitDefEqProofs [avH, avC, avB, hj, k1, k2, k3, k4, ia]
      (first | refine CallK.of (hnm) (by simp) ?_ | refine CallD.of (hnm) (by simp) ?_)
      simp -implicitDefEqProofs []
      (first | refine CallK.of (hhn (abV r lt D)[j + 1]) (by simp) ?_ | refine CallD.of (hhn (abV r lt D)[j + 1]) (by simp) ?_)
      have w5 : IntKind.i64.wrap ((j : Int) + 1 + 1) = (j : Int) + 1 + 1 := by unfold Sml at sa; exact wrapI (by omega) (by omega)
      simp -implicitDefEqProofs [hm, w5, k1, k2, k3, k4, k5, w4, hp', hj, ia]
      ((try simp only [avH, avC, avB]); refine Weak.sub (by simp [lk, keptA, AV.keys, avH, avC, avB]) ?_; simp only [avH, avC, avB, List.cons_append, List.nil_append, List.mem_cons, List.not_mem_nil, or_false, forall_eq_or_imp, forall_eq, and_true, and_true]; (try simp [lk, keptO, keptA, AV.keys, avH, avC, avB]))
  intro _
  refine GO_AR mixed 1000 ?_
  simp -implicitDefEqProofs [avH, avC, avB]
  refine GO_ret mixed 1000 ?_
  simp -implicitDefEqProofs []
  (first | refine CallK.of (hh X) (by simp) ?_ | refine CallD.of (hh X) (by simp) ?_)
  rcases hte with e4 | e4
  · have hi2 := htin e4
    simp -implicitDefEqProofs [e4, hi2]
  · simp -implicitDefEqProofs [e4]
end
end Go.Proofs.YtdpmioiamcgfkaaDoor
