/-
  Parts: what the program's Explode computes, as a whole.
-/
import Derived.Test.YtdpmioiamcgfkaaDoorJEfToGf
import Derived.Test.YtdpmioiamcgfkaaDoorJAmOToMath
import Derived.Test.YtdpmioiamcgfkaaDoorProg
import Derived.Test.YtdpmioiamcgfkaaDoorJOpenToOpen
import Derived.Test.YtdpmioiamcgfkaaDoorJRowToRow
import Derived.Test.YtdpmioiamcgfkaaDoorJRcLToRcB
import Derived.Test.YtdpmioiamcgfkaaDoorJHaToHa
import Derived.Test.YtdpmioiamcgfkaaDoorJRcAToEe
set_option linter.unusedSimpArgs false
set_option linter.unusedVariables false
namespace Go.Proofs.YtdpmioiamcgfkaaDoor
open Go.RowKit

/-- The state of the loop over the drawings. -/
def ptP (r : List Iss) (l : List (Int × Int)) (i : Nat) : St := if ptN (nums r) (mpG l) i = [] then ⟨[(37, .int .i64 i), (36, .int .i64 (nums r).length), (35, .vsl ((nums r).map ia)), (11, .ptr 11 0), (13, .nils)], [(11, .box [.mp 27]), (27, .mp (dpA l))]⟩
  else ⟨[(37, .int .i64 i), (36, .int .i64 (nums r).length), (35, .vsl ((nums r).map ia)), (11, .ptr 11 0), (13, .osl 52 (ptN (nums r) (mpG l) i).length)], [(11, .box [.mp 27]), (27, .mp (dpA l)), (52, .row 2 ((ptN (nums r) (mpG l) i).map ita))]⟩

section
variable {G : Nat → Option (List AV)}

theorem explP_pc (hG : GC G) (r : List Iss) (lt : List Int) (n : Int) (h : Wf r) : PC Tryd.prog G 33 [rega r, .vsl (lt.map ia), .int .i64 n] (.tup [.vsl ((exV r lt n).1.map ita), .int .i64 (exV r lt n).2]) := by
  by_cases e : askV r lt n = 0
  case neg =>
    refine PC.nzR (v := .tup [.nils, .int .i64 (askV r lt n)]) ?_ (by simp [nz, exV, e])
    (refine pc_sheet_Explode (Nat.le_of_ble_eq_true rfl) fun R hG hrd => GO_AR mixed 1000 ?_; subst hG)
    simp -implicitDefEqProofs [rc_sheet_Explode, rr_sheet_Explode, rega]
    (first | refine CallK.of (taken_pc hG r lt n h) (by simp) ?_ | refine CallD.of (taken_pc hG r lt n h) (by simp) ?_)
    simp -implicitDefEqProofs [takA, e]
  obtain ⟨ho, hlt, hn⟩ := ask_0 e
  have hL := open_listed ho
  have hl := listed_20 hL
  have hp := add_pb (G := G) r lt ho hlt 6 n 1 [] hn (dpN_bd ho hn).2
  have hm := paM_eq (T := tkV r lt) (D := nums r) (fun d hd => let q := iss_kind (listed_iss hL (tk_mem hL hlt hd).1); ⟨q.1, q.2.2.2⟩) (fun d hd => tk_its hL hlt hd) 6 n 1 [] hn
  have e0 : mpG [] = fun _ => 0 := by funext x; rfl
  have ev : exV r lt n = (ptN (nums r) (mpG (paM (tkV r lt) 6 n 1 [])) (nums r).length, 0) := by rw [exV, if_pos e, hm, e0]
  rw [ev]
  generalize paM (tkV r lt) 6 n 1 [] = l at *
  refine PC.nzR (v := .tup [if ptN (nums r) (mpG l) (nums r).length = [] then .nils else .vsl ((ptN (nums r) (mpG l) (nums r).length).map ita), .int .i64 0]) ?_ (by split <;> simp_all [nz])
  (refine pc_sheet_Explode (Nat.le_of_ble_eq_true rfl) fun R hG hrd => GO_AR mixed 1000 ?_; subst hG)
  simp -implicitDefEqProofs [rc_sheet_Explode, rr_sheet_Explode, rega]
  (first | refine CallK.of (taken_pc hG r lt n h) (by simp) ?_ | refine CallD.of (taken_pc hG r lt n h) (by simp) ?_)
  simp -implicitDefEqProofs [takA, e, one_byA]
  unfold byA
  simp -implicitDefEqProofs []
  refine CallK.sem (CallSem.byref hp (fun k => k - 1000) (by simp [exO]) (by simp [exO]) (by simp [exO, St.get, lk, ren_dpA, AObj.ren, AV.ren, ren_byA, map_dpA, byA]; try simp [dpA]) (exO_in _ _ _) (by simp [exO, keptA, AV.keys, lk]) rfl (by simp [AV.ren]) rfl rfl) ?_
  simp -implicitDefEqProofs [setsB, exO, ren_dpA, AObj.ren, AV.ren, ren_byA, map_dpA, bkA]
  refine AR_for (ptP r l) (fun _ => True) (nums r).length ?_ trivial ?_ ?_
  · have e0 : ptN (nums r) (mpG l) 0 = [] := rfl
    simp only [ptP, e0, if_true]
    ((try simp only [byA]); refine Weak.sub (by simp [lk, keptA, AV.keys, byA]) ?_; simp only [byA, List.cons_append, List.nil_append, List.mem_cons, List.not_mem_nil, or_false, forall_eq_or_imp, forall_eq, kept_dpA, and_true]; (try simp [lk, keptO, keptA, AV.keys, byA]))
  · intro i hi _
    refine GO_AR mixed 1000 ?_
    have w1 : IntKind.i64.wrap ((i : Int) + 1) = ((i + 1 : Nat) : Int) := wrapI (by omega) (by omega)
    have gd := get_dp (nums r)[i] l
    have hs := ptN_succ (g := mpG l) hi
    have bl := ptN_len (nums r) (mpG l) i
    have bb : ((ptN (nums r) (mpG l) i).length + 1) * 16 ≤ 70368744177664 := by omega
    by_cases c : 0 < mpG l (nums r)[i]
    · have q : dpLk (nums r)[i] l = some (mpG l (nums r)[i]) := by
        unfold mpG dpG at c ⊢
        cases q : dpLk (nums r)[i] l <;> simp_all
      rw [q] at gd
      rw [if_pos c] at hs
      by_cases e : ptN (nums r) (mpG l) i = []
      · rw [e] at hs
        simp -implicitDefEqProofs [ptP, e, hi, ia, gd, c, w1, hs]
        ((try simp only [ita]); refine Weak.sub (by simp [lk, keptA, AV.keys, ita]) ?_; simp only [ita, List.cons_append, List.nil_append, List.mem_cons, List.not_mem_nil, or_false, forall_eq_or_imp, forall_eq, kept_dpA, ita_kept, and_true]; (try simp [lk, keptO, keptA, AV.keys, ita]))
      · simp -implicitDefEqProofs [ptP, e, hi, ia, gd, c, w1, hs, bb]
        ((try simp only [ita]); refine Weak.sub (by simp [lk, keptA, AV.keys, ita]) ?_; simp only [ita, List.cons_append, List.nil_append, List.mem_cons, List.not_mem_nil, or_false, forall_eq_or_imp, forall_eq, kept_dpA, ita_kept, and_true]; (try simp [lk, keptO, keptA, AV.keys, ita]))
    · rw [if_neg c] at hs
      have q : (dpLk (nums r)[i] l).getD 0 = mpG l (nums r)[i] := rfl
      generalize dpLk (nums r)[i] l = o at gd q
      by_cases e : ptN (nums r) (mpG l) i = [] <;> cases o
      · rw [e] at hs
        simp -implicitDefEqProofs [ptP, e, hi, ia, gd, w1, hs]
        ((try simp only [ita]); refine Weak.sub (by simp [lk, keptA, AV.keys, ita]) ?_; simp only [ita, List.cons_append, List.nil_append, List.mem_cons, List.not_mem_nil, or_false, forall_eq_or_imp, forall_eq, kept_dpA, ita_kept, and_true]; (try simp [lk, keptO, keptA, AV.keys, ita]))
      · rw [e] at hs
        obtain rfl : _ = mpG l (nums r)[i] := q
        simp -implicitDefEqProofs [ptP, e, hi, ia, gd, c, w1, hs]
        ((try simp only [ita]); refine Weak.sub (by simp [lk, keptA, AV.keys, ita]) ?_; simp only [ita, List.cons_append, List.nil_append, List.mem_cons, List.not_mem_nil, or_false, forall_eq_or_imp, forall_eq, kept_dpA, ita_kept, and_true]; (try simp [lk, keptO, keptA, AV.keys, ita]))
      · simp -implicitDefEqProofs [ptP, e, hi, ia, gd, w1, hs]
        ((try simp only [ita]); refine Weak.sub (by simp [lk, keptA, AV.keys, ita]) ?_; simp only [ita, List.cons_append, List.nil_append, List.mem_cons, List.not_mem_nil, or_false, forall_eq_or_imp, forall_eq, kept_dpA, ita_kept, and_true]; (try simp [lk, keptO, keptA, AV.keys, ita]))
      · obtain rfl : _ = mpG l (nums r)[i] := q
        simp -implicitDefEqProofs [ptP, e, hi, ia, gd, c, w1, hs]
        ((try simp only [ita]); refine Weak.sub (by simp [lk, keptA, AV.keys, ita]) ?_; simp only [ita, List.cons_append, List.nil_append, List.mem_cons, List.not_mem_nil, or_false, forall_eq_or_imp, forall_eq, kept_dpA, ita_kept, and_true]; (try simp [lk, keptO, keptA, AV.keys, ita]))
  · intro _
    refine GO_AR mixed 1000 ?_
    by_cases e : ptN (nums r) (mpG l) (nums r).length = []
    · simp -implicitDefEqProofs [ptP, e]
      refine GO_ret mixed 1000 ?_
      simp -implicitDefEqProofs [e]
    · have pu : ((ptN (nums r) (mpG l) (nums r).length).map ita).all (fun r => r.all AV.pure) = true := by simp [ita, AV.pure]
      simp -implicitDefEqProofs [ptP, e]
      refine GO_ret mixed 1000 ?_
      simp -implicitDefEqProofs [e, pu]
end
end Go.Proofs.YtdpmioiamcgfkaaDoor

/-! Trees: what the program's Tree computes. -/
namespace Go.Proofs.YtdpmioiamcgfkaaDoor
open Go.RowKit

theorem map_bra (ρ : Nat → Nat) (l : List Brn) : (l.map bra).map (fun r => r.map (AV.ren ρ)) = l.map bra := by
  simp only [List.map_map]
  congr 1; funext p; simp [bra, AV.ren]
theorem map_bra1 (ρ : Nat → Nat) (a : Brn) : (bra a).map (AV.ren ρ) = bra a := by simp [bra, AV.ren]
theorem comp_bra (ρ : Nat → Nat) : ((fun r : List AV => r.map (AV.ren ρ)) ∘ bra) = bra := by funext a; exact map_bra1 ρ a
theorem frz_bra (ok : Nat → Bool) (st : St) (l : List Brn) : frzO ok st (.row 4 (l.map bra)) = .row 4 (l.map bra) := by
  simp only [frzO, List.map_map]
  congr 2; funext p; simp [bra, frzA, frz, AV.keys]
theorem frz_b4 (st : St) {ok : Nat → Bool} {k n : Nat} (h : ok k = false) : frzO ok st (.box [.osl k n]) = .box [.osl k n] := by simp [frzO, frzA, frz, h]

/-- What Tree's own function is handed. -/
def grO (K : Nat) (r : List Iss) (lt : List Int) (l : List Brn) : List (Nat × AObj) :=
  [(1009, .box [byA r lt]), (1011, .box [.osl K l.length]), (1012, .box [.func (.func 80) [] [.ptr 1011 0, .ptr 1009 0, .ptr 1012 0]]), (K, .row 4 (l.map bra))]
/-- The same, where nothing is there yet. -/
def grZ (r : List Iss) (lt : List Int) : List (Nat × AObj) :=
  [(1009, .box [byA r lt]), (1011, .box [.nils]), (1012, .box [.func (.func 80) [] [.ptr 1011 0, .ptr 1009 0, .ptr 1012 0]])]
def grS (K : Nat) (r : List Iss) (lt : List Int) (dep : Int) (x : Iss) (l : List Brn) (i : Nat) : St := ⟨[(31, .int .i64 i), (30, .int .i64 x.its.length), (29, .vsl (x.its.map ita)), (0, .int .i64 dep), (4, .ptr 1012 0)], grO K r lt l⟩
theorem grO_in (r : List Iss) (lt : List Int) (l : List Brn) : ∀ p ∈ grO 1027 r lt l, keptO (grO 1027 r lt l) p.2 = true := by
  simp only [grO, List.mem_cons, List.not_mem_nil, or_false, forall_eq_or_imp, forall_eq, bra_kept, and_true]
  simp [lk, keptO, keptA, AV.keys, keys_byA]
theorem grZ_in (r : List Iss) (lt : List Int) : ∀ p ∈ grZ r lt, keptO (grZ r lt) p.2 = true := by
  simp only [grZ, List.mem_cons, List.not_mem_nil, or_false, forall_eq_or_imp, forall_eq]
  simp [lk, keptO, keptA, AV.keys, keys_byA]

section
variable {G : Nat → Option (List AV)}

theorem grow_pb (r : List Iss) (lt : List Int) (ho : openV r = 0) (hlt : ltB r lt = true) : ∀ (k : Nat) (n dep c : Int) (l : List Brn), n ∈ nums r → dpN r n ≤ k → 0 ≤ dep → dep + k ≤ 1000 → l.length ≤ 501 →
    PB Tryd.prog G 80 (grO 1027 r lt l) [.int .i64 dep, .agg [.int .i64 n, .int .i64 c], .ptr 1011 0, .ptr 1009 0, .ptr 1012 0] (.tup []) (grO 1027 r lt (grV (tkV r lt) k dep n c l))
  | 0, n, _, _, _, hn, hd, _, _, _ => (dp_pos ho hn hd).elim
  | k + 1, n, dep, c, l, hn, hd, hd0, hd1, h5 => by
    have hL := open_listed ho
    have wd : IntKind.i64.wrap (dep + 1) = dep + 1 := wrapI (by omega) (by omega)
    have hrec := fun y (hy : y ∈ (tkV r lt n).its) => fun l h5 => grow_pb r lt ho hlt k y.1 (dep + 1) y.2 l (dp_its ho hlt hn hd hy).1 (dp_its ho hlt hn hd hy).2 (by omega) (by omega) h5
    have gb := get_mp isA n (byN r lt (nums r).length)
    rw [byN_get hn] at gb
    have h8 := tk_8 ho hlt n hn
    have hxd := (tk_mem hL hlt hn).2
    rw [grV]
    by_cases c5 : 500 < l.length
    · have c5' : (500 : Int) < l.length := by omega
      rw [if_pos c5]
      (refine pb_sheet_Tree_1 (Nat.le_of_ble_eq_true rfl) fun R hG hrd => GO_AR mixed 1000 ?_; subst hG)
      simp -implicitDefEqProofs [rc_sheet_Tree_1, rr_sheet_Tree_1, grO, c5', FinB, frzSt, newK, frz_bra, frz_b1, frz_b4, frz_b3]
    have c5' : ¬ (500 : Int) < l.length := by omega
    rw [if_neg c5]
    generalize tkV r lt n = x at *
    subst hxd
    obtain ⟨l1, hl1⟩ : ∃ l1, l1 = l ++ [⟨dep, x.d, x.l, c⟩] := ⟨_, rfl⟩
    have hl1m : l1.map bra = l.map bra ++ [[.int .i64 dep, .int .i64 x.d, .int .i64 x.l, .int .i64 c]] := by rw [hl1, List.map_append]; rfl
    have hl1l : l1.length = l.length + 1 := by rw [hl1]; simp
    have b5 : (l.length + 1) * 32 ≤ 70368744177664 := by omega
    rw [← hl1]
    have fl5 : ∀ (its : List (Int × Int)) (l : List Brn), l.length ≤ 501 → (its.foldl (fun l y => grV (tkV r lt) k (dep + 1) y.1 y.2 l) l).length ≤ 501 := by
      intro its
      induction its with
      | nil => intro l h; exact h
      | cons y its ih => intro l h; exact ih _ (grV_501 k _ _ _ _ h)
    (refine pb_sheet_Tree_1 (Nat.le_of_ble_eq_true rfl) fun R hG hrd => GO_AR mixed 1000 ?_; subst hG)
    have key : ∀ (st : St), Weak st (grS 1027 r lt dep x l1 0) → AR Tryd.prog R (lastLp rc_sheet_Tree_1) st (RetP Tryd.prog R [KF.bk 0] (FinB [] (.tup []) (grO 1027 r lt (x.its.foldl (fun l y => grV (tkV r lt) k (dep + 1) y.1 y.2 l) l1)))) := by
      intro st hw
      refine AR_for (fun i => grS 1027 r lt dep x ((x.its.take i).foldl (fun l y => grV (tkV r lt) k (dep + 1) y.1 y.2 l) l1) i) (fun _ => True) x.its.length (by simpa using hw) trivial ?_ ?_
      · intro i hi _
        refine GO_AR mixed 1000 ?_
        have w1 : IntKind.i64.wrap ((i : Int) + 1) = ((i + 1 : Nat) : Int) := wrapI (by omega) (by omega)
        have ft := fold_take (fun l (y : Int × Int) => grV (tkV r lt) k (dep + 1) y.1 y.2 l) l1 x.its i hi
        have hr := hrec x.its[i] (List.getElem_mem hi) ((x.its.take i).foldl (fun l y => grV (tkV r lt) k (dep + 1) y.1 y.2 l) l1) (fl5 _ _ (by omega))
        generalize (x.its.take i).foldl (fun l y => grV (tkV r lt) k (dep + 1) y.1 y.2 l) l1 = l2 at *
        simp -implicitDefEqProofs [lastLp, rc_sheet_Tree_1, grS, grO, hi, ita, wd]
        refine CallK.sem (CallSem.byref hr id (by simp [grO]) (by simp [grO]) (by simp [grO, St.get, lk, AObj.ren, AV.ren, ren_byA, map_bra, map_bra1]) (grO_in _ _ _) (by simp [grO, keptA, AV.keys, lk]) rfl (by simp [AV.ren]) rfl rfl) ?_
        simp -implicitDefEqProofs [setsB, grO, AObj.ren, AV.ren, ren_byA, map_bra, map_bra1, w1]
        ((try simp only [grS, grO, byA, ft, map_bra1]); refine Weak.sub (by simp [lk, keptA, AV.keys, grS, grO, byA, ft, map_bra1]) ?_; simp only [grS, grO, byA, ft, map_bra1, List.cons_append, List.nil_append, List.mem_cons, List.not_mem_nil, or_false, forall_eq_or_imp, forall_eq, bra_kept, and_true]; (try simp [lk, keptO, keptA, AV.keys, grS, grO, byA, ft, map_bra1]))
      · intro _
        refine GO_AR mixed 1000 ?_
        simp -implicitDefEqProofs [lastLp, rc_sheet_Tree_1, grS, grO]
        refine GO_ret mixed 1000 ?_
        simp -implicitDefEqProofs [FinB, frzSt, newK, frz_bra, frz_b1, frz_b4, frz_b3, grO]
    simp -implicitDefEqProofs [rc_sheet_Tree_1, rr_sheet_Tree_1, grO, byA, gb, isA, isa, c5', b5]
    exact key _ (by simp only [← hl1m]; ((try simp only [grS, grO, byA, hl1l]); refine Weak.sub (by simp [lk, keptA, AV.keys, grS, grO, byA, hl1l]) ?_; simp only [grS, grO, byA, hl1l, List.cons_append, List.nil_append, List.mem_cons, List.not_mem_nil, or_false, forall_eq_or_imp, forall_eq, bra_kept, and_true]; (try simp [lk, keptO, keptA, AV.keys, grS, grO, byA, hl1l])))

/-- What stays at the end of Tree's own function, where the list has begun. -/
def okT : Nat → Bool := fun k => decide (k < 1000) && decide (k ≠ 27)
theorem grow0_pb (r : List Iss) (lt : List Int) (ho : openV r = 0) (hlt : ltB r lt = true) (k : Nat) (n dep c : Int) (hn : n ∈ nums r) (hd : dpN r n ≤ k + 1) (hd0 : 0 ≤ dep) (hd1 : dep + (k + 1 : Nat) ≤ 1000) :
    PB Tryd.prog G 80 (grZ r lt) [.int .i64 dep, .agg [.int .i64 n, .int .i64 c], .ptr 1011 0, .ptr 1009 0, .ptr 1012 0] (.tup []) (grO 27 r lt (grV (tkV r lt) (k + 1) dep n c [])) := by
  have hL := open_listed ho
  have wd : IntKind.i64.wrap (dep + 1) = dep + 1 := wrapI (by omega) (by omega)
  have hrec := fun y (hy : y ∈ (tkV r lt n).its) => fun l h5 => grow_pb (G := G) r lt ho hlt k y.1 (dep + 1) y.2 l (dp_its ho hlt hn hd hy).1 (dp_its ho hlt hn hd hy).2 (by omega) (by omega) h5
  have gb := get_mp isA n (byN r lt (nums r).length)
  rw [byN_get hn] at gb
  have h8 := tk_8 ho hlt n hn
  have hxd := (tk_mem hL hlt hn).2
  rw [grV, if_neg (by simp), List.nil_append]
  generalize tkV r lt n = x at *
  subst hxd
  obtain ⟨l1, hl1⟩ : ∃ l1 : List Brn, l1 = [⟨dep, x.d, x.l, c⟩] := ⟨_, rfl⟩
  have hl1m : l1.map bra = [[.int .i64 dep, .int .i64 x.d, .int .i64 x.l, .int .i64 c]] := by rw [hl1]; rfl
  have hl1l : l1.length = 1 := by rw [hl1]; simp
  rw [← hl1]
  have fl5 : ∀ (its : List (Int × Int)) (l : List Brn), l.length ≤ 501 → (its.foldl (fun l y => grV (tkV r lt) k (dep + 1) y.1 y.2 l) l).length ≤ 501 := by
    intro its
    induction its with
    | nil => intro l h; exact h
    | cons y its ih => intro l h; exact ih _ (grV_501 k _ _ _ _ h)
  refine PBo_of okT (by intro k hk; simp [okT] at hk; omega) Tryd.func80 rfl (by kernel_rfl) (rc := rc_sheet_Tree_1) (by kernel_rfl) (rs := rr_sheet_Tree_1) (by kernel_rfl) (Nat.le_of_ble_eq_true rfl) fun R _ hG hrd => GO_AR mixed 1000 ?_
  subst hG
  have key : ∀ (st : St), Weak st (grS 27 r lt dep x l1 0) → AR Tryd.prog R (lastLp rc_sheet_Tree_1) st (RetP Tryd.prog R [KF.bk 0] (FinO okT [] (.tup []) (grO 27 r lt (x.its.foldl (fun l y => grV (tkV r lt) k (dep + 1) y.1 y.2 l) l1)))) := by
    intro st hw
    refine AR_for (fun i => grS 27 r lt dep x ((x.its.take i).foldl (fun l y => grV (tkV r lt) k (dep + 1) y.1 y.2 l) l1) i) (fun _ => True) x.its.length (by simpa using hw) trivial ?_ ?_
    · intro i hi _
      refine GO_AR mixed 1000 ?_
      have w1 : IntKind.i64.wrap ((i : Int) + 1) = ((i + 1 : Nat) : Int) := wrapI (by omega) (by omega)
      have ft := fold_take (fun l (y : Int × Int) => grV (tkV r lt) k (dep + 1) y.1 y.2 l) l1 x.its i hi
      have hr := hrec x.its[i] (List.getElem_mem hi) ((x.its.take i).foldl (fun l y => grV (tkV r lt) k (dep + 1) y.1 y.2 l) l1) (fl5 _ _ (by omega))
      generalize (x.its.take i).foldl (fun l y => grV (tkV r lt) k (dep + 1) y.1 y.2 l) l1 = l2 at *
      simp -implicitDefEqProofs [lastLp, rc_sheet_Tree_1, grS, grO, hi, ita, wd]
      refine CallK.sem (CallSem.byref hr (fun k => if k = 1027 then 27 else k) (by simp [grO]) (by simp [grO]) (by simp [grO, St.get, lk, AObj.ren, AV.ren, ren_byA, map_bra, map_bra1]) (grO_in _ _ _) (by simp [grO, keptA, AV.keys, lk]) rfl (by simp [AV.ren]) rfl rfl) ?_
      simp -implicitDefEqProofs [setsB, grO, AObj.ren, AV.ren, ren_byA, map_bra, map_bra1, w1]
      ((try simp only [grS, grO, byA, ft, map_bra1]); refine Weak.sub (by simp [lk, keptA, AV.keys, grS, grO, byA, ft, map_bra1]) ?_; simp only [grS, grO, byA, ft, map_bra1, List.cons_append, List.nil_append, List.mem_cons, List.not_mem_nil, or_false, forall_eq_or_imp, forall_eq, bra_kept, and_true]; (try simp [lk, keptO, keptA, AV.keys, grS, grO, byA, ft, map_bra1]))
    · intro _
      refine GO_AR mixed 1000 ?_
      simp -implicitDefEqProofs [lastLp, rc_sheet_Tree_1, grS, grO]
      refine GO_ret mixed 1000 ?_
      simp -implicitDefEqProofs [FinO, frzSt, okT, frz_bra, frz_b1, frz_b4, frz_b3, grO]
  simp -implicitDefEqProofs [rc_sheet_Tree_1, rr_sheet_Tree_1, grZ, byA, gb, isA, isa]
  exact key _ (by simp only [← hl1m]; ((try simp only [grS, grO, byA, hl1l]); refine Weak.sub (by simp [lk, keptA, AV.keys, grS, grO, byA, hl1l]) ?_; simp only [grS, grO, byA, hl1l, List.cons_append, List.nil_append, List.mem_cons, List.not_mem_nil, or_false, forall_eq_or_imp, forall_eq, bra_kept, and_true]; (try simp [lk, keptO, keptA, AV.keys, grS, grO, byA, hl1l])))

theorem treeP_pc (hG : GC G) (r : List Iss) (lt : List Int) (n : Int) (h : Wf r) : PC Tryd.prog G 35 [rega r, .vsl (lt.map ia), .int .i64 n] (.tup [.vsl ((trE r lt n).1.map bra), .int .i64 (trE r lt n).2]) := by
  by_cases e : askV r lt n = 0
  case neg =>
    refine PC.nzR (v := .tup [.nils, .int .i64 (askV r lt n)]) ?_ (by simp [nz, trE, e])
    (refine pc_sheet_Tree (Nat.le_of_ble_eq_true rfl) fun R hG hrd => GO_AR mixed 1000 ?_; subst hG)
    simp -implicitDefEqProofs [rc_sheet_Tree, rr_sheet_Tree, rega]
    (first | refine CallK.of (taken_pc hG r lt n h) (by simp) ?_ | refine CallD.of (taken_pc hG r lt n h) (by simp) ?_)
    simp -implicitDefEqProofs [takA, e]
  obtain ⟨ho, hlt, hn⟩ := ask_0 e
  have hp := grow0_pb (G := G) r lt ho hlt 5 n 0 1 hn (dpN_bd ho hn).2 (Int.le_refl _) (by omega)
  obtain ⟨g1, g2⟩ := grV_eq (T := tkV r lt) 6 0 n 1 []
  have g3 := trV_brN (T := tkV r lt) 6 0 n 1
  rw [List.nil_append, g3] at g1 g2
  by_cases c : 500 < brN (tkV r lt) 6 n
  · have c' := g2 c
    refine PC.nzR (v := .tup [.nils, .int .i64 4]) ?_ (by simp [nz, trE, e, c])
    generalize grV (tkV r lt) 6 0 n 1 [] = l at *
    have c2 : (500 : Int) < l.length := by omega
    (refine pc_sheet_Tree (Nat.le_of_ble_eq_true rfl) fun R hG hrd => GO_AR mixed 1000 ?_; subst hG)
    simp -implicitDefEqProofs [rc_sheet_Tree, rr_sheet_Tree, rega]
    (first | refine CallK.of (taken_pc hG r lt n h) (by simp) ?_ | refine CallD.of (taken_pc hG r lt n h) (by simp) ?_)
    simp -implicitDefEqProofs [takA, e, one_byA]
    unfold byA
    simp -implicitDefEqProofs []
    refine CallK.sem (CallSem.refn hp (fun k => if 1000 ≤ k then k - 1000 else k) (by simp [grZ]) (by simp [grO]) (by simp [grZ, St.get, lk, AObj.ren, AV.ren, ren_byA, byA]) (grZ_in _ _) (by simp [grZ, keptA, AV.keys, lk]) (by simp [grZ, grO, isK, lk]) (by simp [grZ, grO, isK, lk, St.get]) (by simp [AV.ren]) rfl rfl) ?_
    simp -implicitDefEqProofs [setsB, grO, AObj.ren, AV.ren, ren_byA, map_bra, map_bra1, c2]
  · have c' := g1 (by omega)
    have ev : trE r lt n = (grV (tkV r lt) 6 0 n 1 [], 0) := by rw [trE, if_pos e, if_neg c, c']
    rw [ev]
    have lb : (grV (tkV r lt) 6 0 n 1 []).length ≤ 500 := by rw [c', g3]; omega
    generalize grV (tkV r lt) 6 0 n 1 [] = l at *
    have c2 : ¬ (500 : Int) < l.length := by omega
    have pu := (bra_all l).2.2
    (refine pc_sheet_Tree (Nat.le_of_ble_eq_true rfl) fun R hG hrd => GO_AR mixed 1000 ?_; subst hG)
    simp -implicitDefEqProofs [rc_sheet_Tree, rr_sheet_Tree, rega]
    (first | refine CallK.of (taken_pc hG r lt n h) (by simp) ?_ | refine CallD.of (taken_pc hG r lt n h) (by simp) ?_)
    simp -implicitDefEqProofs [takA, e, one_byA]
    unfold byA
    simp -implicitDefEqProofs []
    refine CallK.sem (CallSem.refn hp (fun k => if 1000 ≤ k then k - 1000 else k) (by simp [grZ]) (by simp [grO]) (by simp [grZ, St.get, lk, AObj.ren, AV.ren, ren_byA, byA]) (grZ_in _ _) (by simp [grZ, keptA, AV.keys, lk]) (by simp [grZ, grO, isK, lk]) (by simp [grZ, grO, isK, lk, St.get]) (by simp [AV.ren]) rfl rfl) ?_
    simp -implicitDefEqProofs [setsB, grO, AObj.ren, AV.ren, ren_byA, map_bra, map_bra1, comp_bra, c2, pu]
end
end Go.Proofs.YtdpmioiamcgfkaaDoor

/-! The abstract machine's code of functions of the program, as a program of ours printed it; that it is theirs is proved beside each. -/
namespace Go.Proofs.YtdpmioiamcgfkaaDoor
open Go.RowKit

end Go.Proofs.YtdpmioiamcgfkaaDoor

/-! The law SheetTells, by the abstract machine. -/
namespace Go.Proofs.YtdpmioiamcgfkaaDoor
open Go.RowKit

section
variable {G : Nat → Option (List AV)}

end
end Go.Proofs.YtdpmioiamcgfkaaDoor

/-! What the rows of layer 2 share: the list of checks as the rows list it; registers that came in. -/
namespace Go.Proofs.YtdpmioiamcgfkaaDoor
open Go.ChangeShapes Go.WideShapes Go.ChangeAt Go.WideMaps Go.WideElems Go.RowKit Go.Deep

theorem own : ownKnob Tryd.prog.godebug = none := by kernel_rfl
theorem laidOut : laidOutB Tryd.prog = true := by kernel_rfl
theorem gChecks : Tryd.prog.globalNamed "blueline/sheet.checks" = some 0 := by kernel_rfl
theorem tChecks : (Tryd.prog.globals[0]?).map (·.type) = some 159 := by kernel_rfl

/-- The rows' list of variables. -/
def laid2 : List (String × DataW Unit) := [("blueline/sheet.checks", Rows.laid_blueline_sheet_checks)]

/-- The door's own heap meets the condition. -/
theorem door_met (os : Os) (args : Array Value) : laidMetH Tryd.prog laid2 ((World.doorLaid Tryd.prog 41 os).forCall (fun _ _ => 0) ⟨#[], args, []⟩).memory :=
  laidMetH_of_parts3 (fuel := 8) (laidMet_of_run' 8 (by kernel_rfl) (by kernel_rfl)) (by kernel_rfl) (by kernel_rfl)

theorem cF : Tryd.prog.cellsOf 157 = 1 := by kernel_rfl
theorem checkC : Tryd.prog.cellsOf 158 = 1 := by kernel_rfl

/-- The block of the checks. -/
def ChkB (W : World) : Prop := ∃ t fr, W.heap[0]? = some (.cells #[.func (.func 157) #[] #[], .func (.func 158) #[] #[], .func (.func 159) #[] #[], .func (.func 160) #[] #[]] t fr)

theorem list4 {α : Type} {l : List α} (h : l.length = 4) : ∃ c0 c1 c2 c3, l = [c0, c1, c2, c3] := by
  match l, h with
  | [c0, c1, c2, c3], _ => exact ⟨c0, c1, c2, c3, rfl⟩

theorem cell_func {W : World} {fuel : Nat} {c : Value} {y : DataW (List UInt8) × List MemPlace} {b : UInt8} {s : List UInt8} {f0 : FuncId} (hone : ((List.range Tryd.prog.funcs.size).filter fun f => (Tryd.prog.funcs[f]?).any (·.name.toUTF8.data.toList == b :: s)) = [f0])
    (h : DataW.trod (funcToken Tryd.prog) Tryd.prog W 0 (fun _ => true) true fuel 158 [c] = some y) (hy : y.1 = .agg [.held (b :: s)]) : c = .func (.func f0) #[] #[] := by
  obtain ⟨y0, n, rfl, -, h0⟩ := trod_struct1 Tryd.underlying158 h
  simp only [List.drop_zero] at h0
  rw [cF] at h0
  simp only [DataW.agg.injEq, List.cons.injEq, and_true] at hy
  exact func_of_trod (q := y0.2) Tryd.underlying157 hone (by rw [← hy]; simpa using h0)

set_option maxRecDepth 100000 in
theorem of_laid {W : World} (h : laidMetH Tryd.prog laid2 W) : ChkB W := by
  obtain ⟨g, t, cs, fuel, p, hg, ht, hv, hd⟩ := h.funcs (List.mem_singleton.2 rfl)
  obtain rfl := Option.some.inj (gChecks.symm.trans hg)
  obtain rfl := Option.some.inj (tChecks.symm.trans ht)
  have hd' : DataW.trod (funcToken Tryd.prog) Tryd.prog W 0 (fun _ => true) true fuel 159 cs.toList = some (.agg [.agg [.held [98, 108, 117, 101, 108, 105, 110, 101, 47, 115, 104, 101, 101, 116, 46, 99, 104, 101, 99, 107, 115, 36, 49]], .agg [.held [98, 108, 117, 101, 108, 105, 110, 101, 47, 115, 104, 101, 101, 116, 46, 99, 104, 101, 99, 107, 115, 36, 50]], .agg [.held [98, 108, 117, 101, 108, 105, 110, 101, 47, 115, 104, 101, 101, 116, 46, 99, 104, 101, 99, 107, 115, 36, 51]], .agg [.held [98, 108, 117, 101, 108, 105, 110, 101, 47, 115, 104, 101, 101, 116, 46, 99, 104, 101, 99, 107, 115, 36, 52]]], p) := hd
  obtain ⟨xs, m, rfl, hx, hlen, hn, hel⟩ := DataW.trod_array Tryd.underlying159 hd'
  have hlen4 : cs.toList.length = 4 := hlen.trans (by kernel_rfl)
  obtain ⟨c0, c1, c2, c3, hcs⟩ := list4 hlen4
  rw [hcs] at hel
  have e0 := hel 0 (by decide)
  have e1 := hel 1 (by decide)
  have e2 := hel 2 (by decide)
  have e3 := hel 3 (by decide)
  rw [checkC] at e0 e1 e2 e3
  match xs, hn, hx, e0, e1, e2, e3 with
  | [x0, x1, x2, x3], _, hx, e0, e1, e2, e3 =>
    simp only [Prod.mk.injEq] at hx
    have hx := hx.1
    simp only [List.map_cons, List.map_nil, DataW.agg.injEq, List.cons.injEq] at hx
    obtain ⟨hx0, hx1, hx2, hx3, -⟩ := hx
    have g0 := cell_func (f0 := 157) (by kernel_rfl) e0 hx0.symm
    have g1 := cell_func (f0 := 158) (by kernel_rfl) e1 hx1.symm
    have g2 := cell_func (f0 := 159) (by kernel_rfl) e2 hx2.symm
    have g3 := cell_func (f0 := 160) (by kernel_rfl) e3 hx3.symm
    have hcs2 : cs = #[c0, c1, c2, c3] := by rw [← Array.toArray_toList (xs := cs), hcs]
    rw [g0, g1, g2, g3] at hcs2
    simp only [World.var?, gChecks, Option.bind_some] at hv
    split at hv
    · rename_i cs' t fr heq
      injection hv with hv
      exact ⟨t, fr, by rw [heq, hv, hcs2]⟩
    · cases hv

/-- The program's variables that the walks look at. -/
def G2 : Nat → Option (List AV) := fun g => if g = 0 then some [.func (.func 157) [] [], .func (.func 158) [] [], .func (.func 159) [] [], .func (.func 160) [] []] else none
theorem gc_of : GC G2 := rfl
theorem gr_of {W : World} (h : ChkB W) : GR G2 noM W := by
  obtain ⟨t, fr, hb⟩ := h
  intro g cs hg
  simp only [G2] at hg
  split at hg <;> simp only [Option.some.injEq, reduceCtorEq] at hg
  rename_i e
  subst e; subst hg
  refine .vptr _ 0 0 0 (fun j => ((#[.func (.func 157) #[] #[], .func (.func 158) #[] #[], .func (.func 159) #[] #[], .func (.func 160) #[] #[]] : Array Value)[j]?).getD undef) (Array.getElem?_eq_some_iff.1 hb).1 id ?_ ?_
  · intro j hj
    have hj' : j < 4 := by simpa using hj
    simp only [World.cell?, hb]
    match j, hj' with
    | 0, _ => rfl
    | 1, _ => rfl
    | 2, _ => rfl
    | 3, _ => rfl
  · intro j x hx
    have hfn : ∀ fn : Fn, PV noM W (.func fn [] []) (.func fn #[] #[]) := fun fn => .func fn [] [] #[] #[] rfl rfl (by simp) (by simp)
    match j, hx with
    | 0, hx => cases hx; exact hfn _
    | 1, hx => cases hx; exact hfn _
    | 2, hx => cases hx; exact hfn _
    | 3, hx => cases hx; exact hfn _

/-- What a law's contract says of a call from outside. -/
theorem law_calls {P : Program} {G : Nat → Option (List AV)} {f : FuncId} {args : List AV} {W : World} {vs : Array Value} (h : PC P G f args (.bool true)) (hG : GR G noM W) (hs : vs.size = args.length)
    (hv : ∀ (i : Nat) (x : AV) (u : Value), args[i]? = some x → vs[i]? = some u → PV noM W x u) : Calls P f vs W fun e W' => e = .returned (.bool true) ∧ Ext W W' :=
  (h.2 noM W vs (fun _ h => h.elim) hG hs hv).mono fun e W' ⟨v, h1, h2, h3⟩ => by
    cases h2
    exact ⟨h1, h3⟩

/-! Registers that came in. -/
def itK : List TY := [.int .i64, .int .i64]
def dmK : List TY := [.int .i64, .int .i64, .int .i64]
def isK2 : List TY := [.int .i64, .int .i64, .int .u8, .sl itK, .sl dmK]
theorem pair_inv {xs : List AV} (h : TVs itK xs) : ∃ p : Int × Int, xs = ita p := by
  obtain ⟨x0, _, rfl, h0, h⟩ := h.cons_inv
  obtain ⟨x1, _, rfl, h1, h⟩ := h.cons_inv
  obtain rfl := h.nil_inv
  obtain ⟨n, rfl, -⟩ := h0.int_inv
  obtain ⟨l, rfl, -⟩ := h1.int_inv
  exact ⟨(n, l), rfl⟩
theorem dm_inv {xs : List AV} (h : TVs dmK xs) : ∃ d : Dm, xs = dma d := by
  obtain ⟨x0, _, rfl, h0, h⟩ := h.cons_inv
  obtain ⟨x1, _, rfl, h1, h⟩ := h.cons_inv
  obtain ⟨x2, _, rfl, h2, h⟩ := h.cons_inv
  obtain rfl := h.nil_inv
  obtain ⟨n, rfl, -⟩ := h0.int_inv
  obtain ⟨l, rfl, -⟩ := h1.int_inv
  obtain ⟨u, rfl, -⟩ := h2.int_inv
  exact ⟨⟨n, l, u⟩, rfl⟩
def KOk (x : Iss) : Prop := 0 ≤ x.k ∧ x.k ≤ 255
theorem iss_inv {xs : List AV} (h : TVs isK2 xs) : ∃ x : Iss, xs = isa x ∧ KOk x := by
  obtain ⟨x0, _, rfl, h0, h⟩ := h.cons_inv
  obtain ⟨x1, _, rfl, h1, h⟩ := h.cons_inv
  obtain ⟨x2, _, rfl, h2, h⟩ := h.cons_inv
  obtain ⟨x3, _, rfl, h3, h⟩ := h.cons_inv
  obtain ⟨x4, _, rfl, h4, h⟩ := h.cons_inv
  obtain rfl := h.nil_inv
  obtain ⟨n, rfl, -⟩ := h0.int_inv
  obtain ⟨l, rfl, -⟩ := h1.int_inv
  obtain ⟨k, rfl, hk⟩ := h2.int_inv
  obtain ⟨r3, rfl, -, g3⟩ := h3.sl_inv
  obtain ⟨r4, rfl, -, g4⟩ := h4.sl_inv
  obtain ⟨its, rfl⟩ := rows_map (f := ita) fun r hr => pair_inv (g3 r hr)
  obtain ⟨dms, rfl⟩ := rows_map (f := dma) fun r hr => dm_inv (g4 r hr)
  exact ⟨⟨n, l, k, its, dms⟩, rfl, bounds_u8 hk⟩
theorem rows_mapP {α β : Type} {f : α → β} {p : α → Prop} {rows : List β} (h : ∀ r ∈ rows, ∃ d, r = f d ∧ p d) : ∃ l : List α, rows = l.map f ∧ ∀ x ∈ l, p x := by
  induction rows with
  | nil => exact ⟨[], rfl, by simp⟩
  | cons r rows ih =>
    obtain ⟨d, rfl, hd⟩ := h r (List.mem_cons_self ..)
    obtain ⟨l, rfl, hl⟩ := ih fun r hr => h r (List.mem_cons_of_mem _ hr)
    exact ⟨d :: l, rfl, fun x hx => by
      rcases List.mem_cons.1 hx with rfl | hx
      · exact hd
      · exact hl x hx⟩
theorem reg_inv {xs : List AV} (h : TVs [.sl isK2] xs) : ∃ r : List Iss, AV.agg xs = rega r ∧ ∀ x ∈ r, KOk x := by
  obtain ⟨x0, _, rfl, h0, h⟩ := h.cons_inv
  obtain rfl := h.nil_inv
  obtain ⟨rows, rfl, -, g⟩ := h0.sl_inv
  obtain ⟨r, rfl, hr⟩ := rows_mapP (f := isa) (p := KOk) fun r hr => iss_inv (g r hr)
  exact ⟨r, rfl, hr⟩

theorem greatA_pc {G : Nat → Option (List AV)} (r : List Iss) : PC Tryd.prog G 18 [rega r] (.bool (greatB r)) := by
  by_cases h1 : 80 < r.length
  · (refine pc_ref02_Great (Nat.le_of_ble_eq_true rfl) fun R hG hrd => GO_AR mixed 1000 ?_; subst hG)
    have h1' : (80 : Int) < r.length := by omega
    simp -implicitDefEqProofs [rc_ref02_Great, rr_ref02_Great, rega, h1', greatB, h1]
  · exact great_pc r (by unfold Sml; omega)
theorem great_wf {r : List Iss} (h : greatB r = false) (hk : ∀ x ∈ r, KOk x) : Wf r := by
  simp only [greatB, Bool.or_eq_false_iff, decide_eq_false_iff_not, List.any_eq_false, Bool.or_eq_true, decide_eq_true_eq, not_or] at h
  exact ⟨⟨by unfold Sml; omega, fun x hx => by have := h.2 x hx; unfold Sml; omega⟩, hk⟩
end Go.Proofs.YtdpmioiamcgfkaaDoor

/-! The law SheetParts, by the abstract machine. -/
namespace Go.Proofs.YtdpmioiamcgfkaaDoor
open Go.RowKit

theorem trE_sml {r : List Iss} {lt : List Int} {n : Int} : Sml (trE r lt n).1 := by
  unfold trE Sml
  split
  · split
    · simp
    · rename_i h
      simp only [trV_brN]; omega
  · simp

section
variable {G : Nat → Option (List AV)}

end
end Go.Proofs.YtdpmioiamcgfkaaDoor

/-! The law SheetUses, by the abstract machine. -/
namespace Go.Proofs.YtdpmioiamcgfkaaDoor
open Go.RowKit

section
variable {G : Nat → Option (List AV)}

end
end Go.Proofs.YtdpmioiamcgfkaaDoor

/-! Names of issues compared, registers' issues one behind the other. -/
namespace Go.Proofs.YtdpmioiamcgfkaaDoor
open Go.RowKit

def okN (x : Iss) : Prop := 1 ≤ x.d ∧ x.d ≤ 9999 ∧ 1 ≤ x.l ∧ x.l ≤ 8
def cmpN (x y : Iss) : Int := if x.d - y.d = 0 then x.l - y.l else x.d - y.d

section
variable {G : Nat → Option (List AV)}

theorem or_pc (a b : Int) : PC Tryd.prog G 93 [.vsl [[.int .i64 a], [.int .i64 b]]] (.int .i64 (if a = 0 then b else a)) := by
  (refine pc_cmp_Or_int (Nat.le_of_ble_eq_true rfl) fun R hG hrd => GO_AR mixed 1000 ?_; subst hG)
  simp -implicitDefEqProofs [rc_cmp_Or_int, rr_cmp_Or_int]
  refine AR_for (fun i => ⟨[(8, .int .i64 i), (7, .int .i64 2), (6, .vsl [[.int .i64 a], [.int .i64 b]]), (3, .int .i64 0)], []⟩) (fun i => (0 < i → a = 0) ∧ (1 < i → b = 0)) 2 (by (first | exact Weak.tm (by simp [lk]) | exact Weak.sub (by simp [lk, keptA, AV.keys]) (by simp [lk, keptO, keptA, AV.keys]))) (by simp) ?_ ?_
  · intro i hi he
    refine GO_AR mixed 1000 ?_
    match i, hi, he with
    | 0, _, _ =>
      have w1 : IntKind.i64.wrap 1 = 1 := rfl
      by_cases h : a = 0
      · simp -implicitDefEqProofs [h, w1]
        (first | exact Weak.tm (by simp [lk]) | exact Weak.sub (by simp [lk, keptA, AV.keys]) (by simp [lk, keptO, keptA, AV.keys]))
      · simp -implicitDefEqProofs [h]
        refine GO_ret mixed 1000 ?_
        simp -implicitDefEqProofs [h]
    | 1, _, he =>
      have h0 := he.1 (by omega)
      have w1 : IntKind.i64.wrap 2 = 2 := rfl
      by_cases h : b = 0
      · simp -implicitDefEqProofs [h, w1]
        exact ⟨(by (first | exact Weak.tm (by simp [lk]) | exact Weak.sub (by simp [lk, keptA, AV.keys]) (by simp [lk, keptO, keptA, AV.keys]))), h0⟩
      · simp -implicitDefEqProofs [h]
        refine GO_ret mixed 1000 ?_
        simp -implicitDefEqProofs [h, h0]
  · rintro ⟨h0, h1⟩
    refine GO_AR mixed 1000 ?_
    have e0 := h0 (by omega)
    have e1 := h1 (by omega)
    simp -implicitDefEqProofs []
    refine GO_ret mixed 1000 ?_
    simp -implicitDefEqProofs [e0, e1]

theorem merge1_pc (x y : Iss) (hx : okN x) (hy : okN y) : PC Tryd.prog G 92 [.agg (isa x), .agg (isa y)] (.int .i64 (cmpN x y)) := by
  (refine pc_sheet_Merge_1 (Nat.le_of_ble_eq_true rfl) fun R hG hrd => GO_AR mixed 1000 ?_; subst hG)
  obtain ⟨x1, x2, x3, x4⟩ := hx
  obtain ⟨y1, y2, y3, y4⟩ := hy
  have w1 : IntKind.i64.wrap (x.d - y.d) = x.d - y.d := wrapI (by omega) (by omega)
  have w2 : IntKind.i64.wrap (x.l - y.l) = x.l - y.l := wrapI (by omega) (by omega)
  simp -implicitDefEqProofs [rc_sheet_Merge_1, rr_sheet_Merge_1, isa, w1, w2]
  (first | refine CallK.of (or_pc (x.d - y.d) (x.l - y.l)) (by simp) ?_ | refine CallD.of (or_pc (x.d - y.d) (x.l - y.l)) (by simp) ?_)
  simp -implicitDefEqProofs [cmpN]

theorem merge2_pc (x y : Iss) : PC Tryd.prog G 95 [.agg (isa x), .agg (isa y)] (.bool (decide (x.d = y.d ∧ x.l = y.l))) := by
  (refine pc_sheet_Merge_2 (Nat.le_of_ble_eq_true rfl) fun R hG hrd => GO_AR mixed 1000 ?_; subst hG)
  have e1 : isa x = [.int .i64 x.d, .int .i64 x.l, .int .u8 x.k, .vsl (x.its.map ita), .vsl (x.dms.map dma)] := rfl
  have e2 : isa y = [.int .i64 y.d, .int .i64 y.l, .int .u8 y.k, .vsl (y.its.map ita), .vsl (y.dms.map dma)] := rfl
  simp -implicitDefEqProofs [rc_sheet_Merge_2, rr_sheet_Merge_2, e1, e2]
  (first | refine CallK.of (name_pc x) (by simp) ?_ | refine CallD.of (name_pc x) (by simp) ?_)
  simp -implicitDefEqProofs []
  (first | refine CallK.of (name_pc y) (by simp) ?_ | refine CallD.of (name_pc y) (by simp) ?_)
  simp -implicitDefEqProofs []
  trace_state
  rfl

def ccA (a b : List Iss) : AV := .vsl [[.vsl (a.map isa)], [.vsl (b.map isa)]]
def ccR (a b : List Iss) (i : Nat) : List (List AV) := if i = 0 then [] else if i = 1 then a.map isa else (a ++ b).map isa
theorem isa_flat (l : List Iss) : (l.map isa).all (fun r => r.length == 5) = true := by simp [isa]
theorem isa_one (l : List Iss) : (l.map isa).all (fun r => r.all AV.one) = true := by simp [isa, AV.one]
theorem isa_pure (l : List Iss) : (l.map isa).all (fun r => r.all AV.pure) = true := by simp [isa, AV.pure]
theorem isa_kept (l : List Iss) (o : List (Nat × AObj)) : keptO o (.row 5 (l.map isa)) = true := by
  simp only [keptO, List.all_eq_true, List.mem_map]
  rintro x ⟨y, -, rfl⟩ v hv
  simp only [isa, List.mem_cons, List.not_mem_nil, or_false] at hv
  rcases hv with rfl | rfl | rfl | rfl | rfl <;> simp [keptA, AV.keys]
theorem concat_pc (a b : List Iss) (h0 : a ≠ []) (hb0 : b ≠ []) (ha : a.length ≤ 400) (hb : b.length ≤ 400) : PC Tryd.prog G 90 [ccA a b] (.vsl ((a ++ b).map isa)) := by
  (refine pc_slices_Concat_api_Issue_api_Issue (Nat.le_of_ble_eq_true rfl) fun R hG hrd => GO_AR mixed 1000 ?_; subst hG)
  simp -implicitDefEqProofs [rc_slices_Concat_api_Issue_api_Issue, rr_slices_Concat_api_Issue_api_Issue, ccA]
  refine AR_for (fun i => ⟨[(11, .int .i64 i), (10, .int .i64 2), (9, ccA a b), (0, ccA a b), (3, .int .i64 (if i = 0 then 0 else if i = 1 then a.length else a.length + b.length : Nat))], []⟩) (fun i => True) 2 (by simp only [ccA]; (first | exact Weak.tm (by simp [lk]) | exact Weak.sub (by simp [lk, keptA, AV.keys]) (by simp [lk, keptO, keptA, AV.keys]))) trivial ?_ ?_
  · intro i hi _
    refine GO_AR mixed 1000 ?_
    match i, hi with
    | 0, _ =>
      have w1 : IntKind.i64.wrap 1 = 1 := rfl
      have w2 : IntKind.i64.wrap (a.length : Int) = a.length := wrapI (by omega) (by omega)
      have k2 : ¬ (a.length : Int) < 0 := by omega
      simp -implicitDefEqProofs [ccA, w1, w2, k2]
      (first | exact Weak.tm (by simp [lk]) | exact Weak.sub (by simp [lk, keptA, AV.keys]) (by simp [lk, keptO, keptA, AV.keys]))
    | 1, _ =>
      have w1 : IntKind.i64.wrap 2 = 2 := rfl
      have w2 : IntKind.i64.wrap ((a.length : Int) + b.length) = ((a.length + b.length : Nat) : Int) := wrapI (by omega) (by omega)
      have k2 : ¬ ((a.length : Int) + b.length) < 0 := by omega
      simp -implicitDefEqProofs [ccA, w1, w2, k2]
      (first | exact Weak.tm (by simp [lk]) | exact Weak.sub (by simp [lk, keptA, AV.keys]) (by simp [lk, keptO, keptA, AV.keys]))
  · intro _
    refine GO_AR mixed 1000 ?_
    have hp : 0 < a.length := List.length_pos_iff.2 h0
    simp -implicitDefEqProofs [ccA]
    refine GO_ret mixed 1000 ?_
    have gp := grow_pn (G := R.G) (a.length + b.length) (by omega) (by omega)
    rw [Int.natCast_add] at gp
    simp -implicitDefEqProofs []
    refine CallNK.new gp (by simp [AV.pure]) (by rfl) ?_
    simp -implicitDefEqProofs []
    refine AR_for (fun i => ⟨[(27, .int .i64 i), (26, .int .i64 2), (25, ccA a b), (6, .osl 24 (ccR a b i).length)], [(24, .row 5 (ccR a b i))]⟩) (fun i => True) 2 (by simp only [ccA, ccR]; (first | exact Weak.tm (by simp [lk]) | exact Weak.sub (by simp [lk, keptA, AV.keys]) (by simp [lk, keptO, keptA, AV.keys]))) trivial ?_ ?_
    · intro i hi _
      refine GO_AR mixed 1000 ?_
      have f1 := isa_flat a
      have f2 := isa_flat b
      have o1 := isa_one a
      have o2 := isa_one b
      have p1 := isa_pure a
      have p2 := isa_pure b
      match i, hi with
      | 0, _ =>
        have w1 : IntKind.i64.wrap 1 = 1 := rfl
        have b1 : a.length * 72 ≤ 70368744177664 := by omega
        simp -implicitDefEqProofs [ccA, ccR, w1, b1, f1, o1, p1, h0]
        refine Weak.sub (by simp [lk, keptA, AV.keys]) ?_
        simp only [List.mem_cons, List.not_mem_nil, or_false, forall_eq_or_imp, forall_eq, isa_kept, and_true]
        simp [lk]
      | 1, _ =>
        have w1 : IntKind.i64.wrap 2 = 2 := rfl
        have b1 : (a.length + b.length) * 72 ≤ 70368744177664 := by omega
        simp -implicitDefEqProofs [ccA, ccR, w1, b1, f2, o2, p2, hb0]
        have ik := isa_kept (a ++ b)
        simp only [List.map_append] at ik
        refine Weak.sub (by simp [lk, keptA, AV.keys]) ?_
        simp only [List.mem_cons, List.not_mem_nil, or_false, forall_eq_or_imp, forall_eq, ik, and_true]
        simp [lk]
    · intro _
      refine GO_AR mixed 1000 ?_
      simp -implicitDefEqProofs [ccA, ccR]
      refine GO_ret mixed 1000 ?_
      have p1 := isa_pure a
      have p2 := isa_pure b
      simp -implicitDefEqProofs [p1, p2]
end
end Go.Proofs.YtdpmioiamcgfkaaDoor

/-! Issues in the order of their names: plain. -/
namespace Go.Proofs.YtdpmioiamcgfkaaDoor
open Go.RowKit

def kyN (x : Iss) : Int := x.d * 16 + x.l
theorem cmpN_lt {x y : Iss} (hx : okN x) (hy : okN y) : cmpN x y < 0 ↔ kyN x < kyN y := by
  obtain ⟨x1, x2, x3, x4⟩ := hx
  obtain ⟨y1, y2, y3, y4⟩ := hy
  unfold cmpN kyN
  split <;> omega
theorem kyN_eq {x y : Iss} (hx : okN x) (hy : okN y) : kyN x = kyN y ↔ (x.d = y.d ∧ x.l = y.l) := by
  obtain ⟨x1, x2, x3, x4⟩ := hx
  obtain ⟨y1, y2, y3, y4⟩ := hy
  unfold kyN
  omega

def leN (x y : Iss) : Bool := decide (kyN x ≤ kyN y)
def sortN (l : List Iss) : List Iss := l.mergeSort leN
/-- Lists in order. -/
def SrtN (l : List Iss) : Prop := l.Pairwise fun x y => kyN x ≤ kyN y
/-- Names tell issues. -/
def InjN (l : List Iss) : Prop := ∀ x ∈ l, ∀ y ∈ l, kyN x = kyN y → x = y

theorem sortN_perm (l : List Iss) : (sortN l).Perm l := List.mergeSort_perm l _
theorem sortN_srt (l : List Iss) : SrtN (sortN l) := by
  have := List.pairwise_mergeSort (le := leN) (fun a b c => by simp [leN]; omega) (fun a b => by simp [leN]; omega) l
  exact this.imp (by simp [leN])
theorem InjN.perm {a b : List Iss} (h : InjN a) (p : a.Perm b) : InjN b := fun x hx y hy => h x (p.mem_iff.2 hx) y (p.mem_iff.2 hy)
theorem InjN.sub {a b : List Iss} (h : InjN a) (s : ∀ x ∈ b, x ∈ a) : InjN b := fun x hx y hy => h x (s x hx) y (s y hy)
theorem sort_uniq {a b : List Iss} (hi : InjN a) (p : a.Perm b) (ha : SrtN a) (hb : SrtN b) : a = b :=
  List.Perm.eq_of_pairwise (le := fun x y => kyN x ≤ kyN y) (fun x y hx hy h1 h2 => hi x hx y (p.mem_iff.2 hy) (by omega)) ha hb p
theorem sortN_eq {l s : List Iss} (hi : InjN l) (p : s.Perm l) (hs : SrtN s) : sortN l = s :=
  sort_uniq (hi.perm (sortN_perm l).symm) ((sortN_perm l).trans p.symm) (sortN_srt l) hs
theorem sortN_len (l : List Iss) : (sortN l).length = l.length := (sortN_perm l).length_eq
theorem sortN_mem {l : List Iss} {x : Iss} : x ∈ sortN l ↔ x ∈ l := (sortN_perm l).mem_iff

/-- A part of a list in order. -/
def srtS (l : List Iss) (a b : Nat) : List Iss := l.take a ++ (sortN ((l.take b).drop a) ++ l.drop b)
theorem srtS_one {l : List Iss} {a b : Nat} (h1 : a ≤ b) (h2 : b ≤ a + 1) : srtS l a b = l := by
  have e : sortN ((l.take b).drop a) = (l.take b).drop a := by
    generalize hq : (l.take b).drop a = q
    have hl : q.length ≤ 1 := by rw [← hq]; simp; omega
    match q, hl with
    | [], _ => simp [sortN]
    | [x], _ => simp [sortN]
  have e2 : l.take a = (l.take b).take a := by rw [List.take_take, Nat.min_eq_left h1]
  rw [srtS, e, ← List.append_assoc, e2, List.take_append_drop, List.take_append_drop]

/-- While an issue is moved: it is ahead of those from p on. -/
def mvS (l : List Iss) (a i p : Nat) : List Iss :=
  l.take a ++ ((sortN ((l.take i).drop a)).take p ++ (l.getD i default :: ((sortN ((l.take i).drop a)).drop p ++ l.drop (i + 1))))
theorem seg_len {l : List Iss} {a i : Nat} (h : i ≤ l.length) : (sortN ((l.take i).drop a)).length = i - a := by rw [sortN_len]; simp; omega
theorem mvS_zero {l : List Iss} {a i : Nat} (h1 : a ≤ i) (h2 : i < l.length) : srtS l a i = mvS l a i (i - a) := by
  have e := seg_len (l := l) (a := a) (i := i) (by omega)
  rw [mvS, srtS, List.drop_eq_getElem_cons h2]
  generalize sortN ((l.take i).drop a) = s at *
  rw [List.take_of_length_le (by omega : s.length ≤ i - a), List.drop_of_length_le (by omega : s.length ≤ i - a)]
  simp [List.getD_eq_getElem?_getD, h2]
theorem mvS_len {l : List Iss} {a i p : Nat} (h1 : a ≤ i) (h2 : i < l.length) (h3 : p ≤ i - a) : (mvS l a i p).length = l.length := by
  have e := seg_len (l := l) (a := a) (i := i) (by omega)
  simp [mvS, e]; omega
theorem swap_at {α : Type} (D C : List α) (y x : α) (n : Nat) (h : n = D.length) : ((D ++ y :: x :: C).set (n + 1) y).set n x = D ++ x :: y :: C := by
  subst h
  rw [List.set_append_right _ _ (by omega), List.set_append_right _ _ (by omega)]
  simp
/-- The two that are compared, and what changing their places gives. -/
theorem mvS_at {l : List Iss} {a i p : Nat} (h1 : a ≤ i) (h2 : i < l.length) (h3 : p + 1 ≤ i - a) :
    ∃ y, (sortN ((l.take i).drop a))[p]? = some y ∧ (mvS l a i (p + 1))[a + p + 1]? = some l[i] ∧ (mvS l a i (p + 1))[a + p]? = some y ∧ ((mvS l a i (p + 1)).set (a + p + 1) y).set (a + p) l[i] = mvS l a i p ∧ y ∈ l := by
  have e := seg_len (l := l) (a := a) (i := i) (by omega)
  have hm : ∀ y ∈ sortN ((l.take i).drop a), y ∈ l := fun y hy => List.mem_of_mem_take (List.mem_of_mem_drop (sortN_mem.1 hy))
  unfold mvS
  generalize sortN ((l.take i).drop a) = s at *
  have hp : p < s.length := by omega
  have ta : (l.take a).length = a := by simp; omega
  have e1 : s.take (p + 1) = s.take p ++ [s[p]] := List.take_succ_eq_append_getElem hp
  have e2 : s.drop p = s[p] :: s.drop (p + 1) := List.drop_eq_getElem_cons hp
  have e3 : l.getD i default = l[i] := by simp [List.getD_eq_getElem?_getD, h2]
  have tp : (s.take p).length = p := by simp; omega
  refine ⟨s[p], by simp [hp], ?_, ?_, ?_, hm _ (List.getElem_mem hp)⟩
  · rw [e1, e3, List.getElem?_append_right (by omega), ta, List.getElem?_append_right (by simp; omega)]
    have : a + p + 1 - a - (s.take p ++ [s[p]]).length = 0 := by simp; omega
    rw [this]; rfl
  · rw [e1, List.getElem?_append_right (by omega), ta, List.append_assoc, List.getElem?_append_right (by omega), tp]
    have : a + p - a - p = 0 := by omega
    rw [this]; rfl
  · rw [e1, e2, e3, List.append_assoc]
    have q := swap_at (l.take a ++ s.take p) (s.drop (p + 1) ++ l.drop (i + 1)) s[p] l[i] (a + p) (by simp; omega)
    simp only [List.append_assoc, List.cons_append, List.nil_append] at q ⊢
    exact q

/-- At its place. -/
theorem mvS_end {l : List Iss} {a i p : Nat} (hi : InjN l) (h1 : a ≤ i) (h2 : i < l.length) (h3 : p ≤ i - a)
    (hd : ∀ y ∈ (sortN ((l.take i).drop a)).drop p, kyN l[i] < kyN y) (hc : ∀ q, p = q + 1 → ∀ y, (sortN ((l.take i).drop a))[q]? = some y → ¬ kyN l[i] < kyN y) : mvS l a i p = srtS l a (i + 1) := by
  have e := seg_len (l := l) (a := a) (i := i) (by omega)
  have e3 : l.getD i default = l[i] := by simp [List.getD_eq_getElem?_getD, h2]
  have e4 : (l.take (i + 1)).drop a = (l.take i).drop a ++ [l[i]] := by
    rw [List.take_succ_eq_append_getElem h2, List.drop_append_of_le_length (by simp; omega)]
  have hs := sortN_srt ((l.take i).drop a)
  have hp := sortN_perm ((l.take i).drop a)
  have hm : ∀ x ∈ (l.take (i + 1)).drop a, x ∈ l := fun y hy => List.mem_of_mem_take (List.mem_of_mem_drop hy)
  rw [srtS, mvS, e3]
  rw [sortN_eq (s := (sortN ((l.take i).drop a)).take p ++ l[i] :: (sortN ((l.take i).drop a)).drop p) (hi.sub hm)]
  · simp [List.append_assoc]
  · rw [e4]
    refine List.perm_middle.trans ?_
    rw [List.take_append_drop]
    exact (List.perm_cons _).2 hp |>.trans (List.perm_append_singleton _ _).symm
  · generalize sortN ((l.take i).drop a) = s at *
    have hs2 := hs
    unfold SrtN at hs ⊢
    rw [← List.take_append_drop p s, List.pairwise_append] at hs
    obtain ⟨t1, t2, t3⟩ := hs
    rw [List.pairwise_append]
    refine ⟨t1, List.pairwise_cons.2 ⟨fun y hy => by have := hd y hy; omega, t2⟩, fun u hu v hv => ?_⟩
    rcases List.mem_cons.1 hv with rfl | hv
    · match p, hc, h3 with
      | 0, _, _ => simp at hu
      | q + 1, hc, h3 =>
        have hq : q < s.length := by omega
        have hc2 := hc q rfl s[q] (by simp [hq])
        obtain ⟨j, hj, rfl⟩ := List.getElem_of_mem hu
        rw [List.getElem_take]
        have hjq : j ≤ q := by simp at hj; omega
        rcases Nat.lt_or_ge j q with hl | hg
        · have := List.pairwise_iff_getElem.1 hs2 j q (by omega) hq hl
          omega
        · have : j = q := by omega
          subst this
          omega
    · exact t3 u hu v hv
end Go.Proofs.YtdpmioiamcgfkaaDoor

/-! The insertion sort, by the abstract machine. -/
namespace Go.Proofs.YtdpmioiamcgfkaaDoor
open Go.RowKit

theorem frz_isa (ok : Nat → Bool) (st : St) (l : List Iss) : frzO ok st (.row 5 (l.map isa)) = .row 5 (l.map isa) := by
  simp only [frzO, List.map_map]
  congr 2
  funext p; simp [isa, frzA, frz, AV.keys]
section
variable {G : Nat → Option (List AV)}

def fM1 : AV := .func (.func 92) [] []
theorem insert_pb (l : List Iss) (a b : Nat) (hv : ∀ x ∈ l, okN x) (hin : InjN l) (h1 : a ≤ b) (h2 : b ≤ l.length) (h3 : l.length ≤ 1000) :
    PB Tryd.prog G 130 [(1000, .row 5 (l.map isa))] [.osl 1000 l.length, .int .i64 a, .int .i64 b, fM1] (.tup []) [(1000, .row 5 ((srtS l a b).map isa))] := by
  (refine pb_slices_insertionSortCmpFunc_api_Issue (Nat.le_of_ble_eq_true rfl) fun R hG hrd => GO_AR mixed 1000 ?_; subst hG)
  have w1 : IntKind.i64.wrap ((a : Int) + 1) = a + 1 := wrapI (by omega) (by omega)
  simp -implicitDefEqProofs [rc_slices_insertionSortCmpFunc_api_Issue, rr_slices_insertionSortCmpFunc_api_Issue, fM1, w1]
  refine AR_for (fun i => ⟨[(8, .int .i64 ((a : Int) + 1 + i)), (0, .osl 1000 l.length), (1, .int .i64 a), (2, .int .i64 b), (3, fM1)], [(1000, .row 5 ((srtS l a (a + 1 + i)).map isa))]⟩) (fun i => True) (b - (a + 1)) ?_ trivial ?_ ?_
  · rw [srtS_one (by omega) (by omega)]
    refine Weak.sub (by simp [lk, keptA, AV.keys, fM1]) ?_
    simp only [List.mem_cons, List.not_mem_nil, or_false, forall_eq_or_imp, forall_eq, isa_kept, and_true]
    simp [lk]
  · intro i hi _
    refine GO_AR mixed 1000 ?_
    have k1 : (a : Int) + 1 + i < b := by omega
    simp -implicitDefEqProofs [fM1, k1]
    have hI : a + 1 + i < l.length := by omega
    have z := mvS_zero (l := l) (a := a) (i := a + 1 + i) (by omega) hI
    have z0 : a + 1 + i - a = i + 1 := by omega
    rw [z0] at z
    rw [z]
    have hx := hv _ (List.getElem_mem hI)
    have ex : isa l[a + 1 + i] = [.int .i64 l[a + 1 + i].d, .int .i64 l[a + 1 + i].l, .int .u8 l[a + 1 + i].k, .vsl (l[a + 1 + i].its.map ita), .vsl (l[a + 1 + i].dms.map dma)] := rfl
    have hat := fun p (hp : p + 1 ≤ a + 1 + i - a) => mvS_at (l := l) (a := a) (i := a + 1 + i) (p := p) (by omega) hI hp
    have hend := fun p => mvS_end (l := l) (a := a) (i := a + 1 + i) (p := p) hin (by omega) hI
    have hln := fun p (hp : p ≤ a + 1 + i - a) => mvS_len (l := l) (a := a) (i := a + 1 + i) (p := p) (by omega) hI hp
    have hsl := seg_len (l := l) (a := a) (i := a + 1 + i) (by omega)
    generalize hsg : sortN ((l.take (a + 1 + i)).drop a) = s at *
    generalize hxx : l[a + 1 + i] = x at *
    refine AR_loop (fun p : Nat => ⟨[(9, .int .i64 ((a : Int) + p)), (8, .int .i64 ((a : Int) + 1 + i)), (0, .osl 1000 l.length), (1, .int .i64 a), (2, .int .i64 b), (3, .func (.func 92) [] [])], [(1000, .row 5 ((mvS l a (a + 1 + i) p).map isa))]⟩)
      (fun p => p ≤ i + 1 ∧ ∀ y ∈ s.drop p, kyN x < kyN y) (fun p => p) (i + 1) ?_ ⟨Nat.le_refl _, fun y hy => by rw [List.drop_of_length_le (by omega)] at hy; cases hy⟩ ?_
    · have e9 : (a : Int) + 1 + i = (a : Int) + (i + 1 : Nat) := by omega
      rw [e9]
      refine Weak.sub (by simp [lk, keptA, AV.keys]) ?_
      simp only [List.mem_cons, List.not_mem_nil, or_false, forall_eq_or_imp, forall_eq, isa_kept, and_true]
      simp [lk]
    · rintro p ⟨hp, hd⟩
      refine GO_AR mixed 1000 ?_
      cases p with
      | zero =>
        have k2 : ¬ (a : Int) < a := by omega
        simp -implicitDefEqProofs []
        refine ⟨rfl, ?_⟩
        refine GO_ret mixed 1000 ?_
        have w3 : IntKind.i64.wrap ((a : Int) + 1 + i + 1) = (a : Int) + 1 + (i + 1) := by rw [wrapI (by omega) (by omega)]; omega
        have he := hend 0 (Nat.zero_le _) hd (fun q hq => by omega)
        have he2 : a + 1 + i + 1 = a + 1 + (i + 1) := by omega
        rw [he2] at he
        simp -implicitDefEqProofs [w3]
        refine Weak.sub (by simp [lk, keptA, AV.keys]) ?_
        simp only [List.mem_cons, List.not_mem_nil, or_false, forall_eq_or_imp, forall_eq, isa_kept, and_true]
        simp [lk, he]
      | succ p =>
        obtain ⟨y, hy0, hy1, hy2, hy3, hy4⟩ := hat p (by omega)
        have ey : isa y = [.int .i64 y.d, .int .i64 y.l, .int .u8 y.k, .vsl (y.its.map ita), .vsl (y.dms.map dma)] := rfl
        have hl2 := hln (p + 1) (by omega)
        have k2 : (a : Int) < (a : Int) + (p + 1) := by omega
        have k3 : ((a : Int) + (p + 1)).toNat = a + p + 1 := by omega
        have w2 : IntKind.i64.wrap ((a : Int) + (p + 1) - 1) = (a : Int) + p := by rw [wrapI (by omega) (by omega)]; omega
        have k4 : ((a : Int) + p).toNat = a + p := by omega
        have k5 : a + p + 1 < l.length := by omega
        have k6 : a + p < l.length := by omega
        have k7 : (0 : Int) ≤ (a : Int) + (p + 1) := by omega
        have k8 : (0 : Int) ≤ (a : Int) + p := by omega
        have he := hend (p + 1) (by omega) hd
        generalize mvS l a (a + 1 + i) (p + 1) = Q at *
        obtain ⟨q1, g1⟩ := List.getElem?_eq_some_iff.1 hy1
        obtain ⟨q2, g2⟩ := List.getElem?_eq_some_iff.1 hy2
        have hcl := cmpN_lt hx (hv y hy4)
        simp -implicitDefEqProofs [k2, k3, w2, k4, k5, k6, k7, k8, g1, g2, hl2, ex, ey]
        refine CallD.of (merge1_pc x y hx (hv y hy4)) (by simp [AV.pure]) ?_
        by_cases hlt : cmpN x y < 0
        · simp -implicitDefEqProofs [hlt, k3, w2, k4, k5, k6, k7, k8, g1, g2, hl2, ex, ey]
          refine ⟨rfl, rfl, p, ?_, ⟨by omega, fun u hu => ?_⟩, Nat.lt_succ_self _⟩
          · rw [← ex, ← ey, ← List.map_set, ← List.map_set, hy3]
            refine Weak.sub (by simp [lk, keptA, AV.keys]) ?_
            simp only [List.mem_cons, List.not_mem_nil, or_false, forall_eq_or_imp, forall_eq, isa_kept, and_true]
            simp [lk]
          · obtain ⟨hps, gs⟩ := List.getElem?_eq_some_iff.1 hy0
            rw [List.drop_eq_getElem_cons hps, gs] at hu
            rcases List.mem_cons.1 hu with rfl | hu
            · exact hcl.1 hlt
            · exact hd u hu
        · simp -implicitDefEqProofs [hlt]
          refine ⟨rfl, ?_⟩
          refine GO_ret mixed 1000 ?_
          have w3 : IntKind.i64.wrap ((a : Int) + 1 + i + 1) = (a : Int) + 1 + (i + 1) := by rw [wrapI (by omega) (by omega)]; omega
          have he := he (fun q hq u hu hk => by
            have : q = p := by omega
            subst this
            rw [hy0] at hu
            cases hu
            exact hlt (hcl.2 hk))
          have he2 : a + 1 + i + 1 = a + 1 + (i + 1) := by omega
          rw [he2] at he
          simp -implicitDefEqProofs [w3]
          refine Weak.sub (by simp [lk, keptA, AV.keys]) ?_
          simp only [List.mem_cons, List.not_mem_nil, or_false, forall_eq_or_imp, forall_eq, isa_kept, and_true]
          simp [lk, he]
  · intro _
    refine GO_AR mixed 1000 ?_
    have k1 : ¬ (a : Int) + 1 + (b - (a + 1) : Nat) < b := by omega
    simp -implicitDefEqProofs [fM1, k1]
    refine GO_ret mixed 1000 ?_
    have e : srtS l a (a + 1 + (b - (a + 1))) = srtS l a b := by
      rcases Nat.lt_or_ge a b with h | h
      · congr 1; omega
      · rw [srtS_one (by omega) (by omega), srtS_one (by omega) (by omega)]
    rw [e]
    refine ⟨[], rfl, rfl, ?_⟩
    simp [frzSt, newK, frz_isa]
end
end Go.Proofs.YtdpmioiamcgfkaaDoor

/-! The stable sort of few issues, by the abstract machine. -/
namespace Go.Proofs.YtdpmioiamcgfkaaDoor
open Go.RowKit
section
variable {G : Nat → Option (List AV)}

theorem srtS_all (l : List Iss) : srtS l 0 l.length = sortN l := by simp [srtS]
theorem isa_ren (ρ : Nat → Nat) (l : List Iss) : AObj.ren ρ (.row 5 (l.map isa)) = .row 5 (l.map isa) := by
  simp only [AObj.ren, List.map_map]
  congr 2
  funext p; simp [isa, AV.ren]
theorem stable_few_pb (l : List Iss) (hv : ∀ x ∈ l, okN x) (hin : InjN l) (h3 : l.length < 20) :
    PB Tryd.prog G 116 [(1000, .row 5 (l.map isa))] [.osl 1000 l.length, .int .i64 l.length, fM1] (.tup []) [(1000, .row 5 ((sortN l).map isa))] := by
  (refine pb_slices_stableCmpFunc_api_Issue (Nat.le_of_ble_eq_true rfl) fun R hG hrd => GO_AR mixed 1000 ?_; subst hG)
  have k1 : ¬ (20 : Int) ≤ l.length := by omega
  have k2 : ¬ (20 : Int) < l.length := by omega
  have hp := insert_pb (G := R.G) l 0 l.length hv hin (Nat.zero_le _) (Nat.le_refl _) (by omega)
  rw [srtS_all] at hp
  simp -implicitDefEqProofs [rc_slices_stableCmpFunc_api_Issue, rr_slices_stableCmpFunc_api_Issue, fM1]
  refine AR_for (fun i => ⟨[(8, .int .i64 20), (7, .int .i64 0), (6, .int .i64 20), (0, .osl 1000 l.length), (1, .int .i64 l.length), (2, fM1)], [(1000, .row 5 (l.map isa))]⟩) (fun _ => True) 0 ?_ trivial (fun i hi => by omega) fun _ => ?_
  · refine Weak.sub (by simp [lk, keptA, AV.keys, fM1]) ?_
    simp only [List.mem_cons, List.not_mem_nil, or_false, forall_eq_or_imp, forall_eq, isa_kept, and_true]
    simp [lk]
  refine GO_AR mixed 1000 ?_
  simp -implicitDefEqProofs [fM1, k1]
  refine GO_ret mixed 1000 ?_
  simp -implicitDefEqProofs []
  refine CallK.sem (CallSem.byref hp id (by simp) (by simp) (by simp [St.get, lk, isa_ren]) (by simp [isa_kept]) (by simp [keptA, AV.keys, lk, fM1]) rfl (by simp [AV.ren, fM1]) rfl rfl) ?_
  simp -implicitDefEqProofs [setsB, isa_ren]
  refine AR_for (fun i => ⟨[(6, .int .i64 20), (1, .int .i64 l.length)], [(1000, .row 5 ((sortN l).map isa))]⟩) (fun _ => True) 0 ?_ trivial (fun i hi => by omega) fun _ => ?_
  · refine Weak.sub (by simp [lk, keptA, AV.keys, fM1]) ?_
    simp only [List.mem_cons, List.not_mem_nil, or_false, forall_eq_or_imp, forall_eq, isa_kept, and_true]
    simp [lk]
  refine GO_AR mixed 1000 ?_
  simp -implicitDefEqProofs [k2]
  refine GO_ret mixed 1000 ?_
  refine ⟨[], rfl, rfl, ?_⟩
  simp [frzSt, newK, frz_isa]

theorem sort_few_pb (l : List Iss) (hv : ∀ x ∈ l, okN x) (hin : InjN l) (h3 : l.length < 20) :
    PB Tryd.prog G 91 [(1000, .row 5 (l.map isa))] [.osl 1000 l.length, fM1] (.tup []) [(1000, .row 5 ((sortN l).map isa))] := by
  (refine pb_slices_SortStableFunc_api_Issue_api_Issue (Nat.le_of_ble_eq_true rfl) fun R hG hrd => GO_AR mixed 1000 ?_; subst hG)
  simp -implicitDefEqProofs [rc_slices_SortStableFunc_api_Issue_api_Issue, rr_slices_SortStableFunc_api_Issue_api_Issue, fM1]
  refine CallK.sem (CallSem.byref (stable_few_pb l hv hin h3) id (by simp) (by simp) (by simp [St.get, lk, isa_ren]) (by simp [isa_kept]) (by simp [keptA, AV.keys, lk, fM1]) rfl (by simp [AV.ren, fM1]) rfl rfl) ?_
  simp -implicitDefEqProofs [setsB, isa_ren]
  refine ⟨[], rfl, rfl, ?_⟩
  simp [frzSt, newK, frz_isa]
end
end Go.Proofs.YtdpmioiamcgfkaaDoor

/-! Equal names that stand side by side are put together, by the abstract machine. -/
namespace Go.Proofs.YtdpmioiamcgfkaaDoor
open Go.RowKit

def smN (x y : Iss) : Bool := decide (x.d = y.d ∧ x.l = y.l)
/-- Of the first p issues those whose name is not that of the one ahead. -/
def kN (l : List Iss) : Nat → List Iss
  | 0 => []
  | p + 1 => if p ≠ 0 ∧ smN (l.getD p default) (l.getD (p - 1) default) = true then kN l p else kN l p ++ [l.getD p default]
theorem kN_len (l : List Iss) : ∀ p, (kN l p).length ≤ p
  | 0 => Nat.le_refl _
  | p + 1 => by
    have := kN_len l p
    rw [kN]; split <;> simp <;> omega
/-- None stands twice among the first p. -/
def noD (l : List Iss) (p : Nat) : Prop := ∀ j, 0 < j → j < p → smN (l.getD j default) (l.getD (j - 1) default) = false
theorem kN_noD {l : List Iss} : ∀ {p : Nat}, noD l p → p ≤ l.length → kN l p = l.take p
  | 0, _, _ => rfl
  | p + 1, h, hp => by
    rw [kN, kN_noD (p := p) (fun j h1 h2 => h j h1 (by omega)) (by omega), List.take_succ_eq_append_getElem (by omega)]
    have e : l.getD p default = l[p] := by simp [List.getD_eq_getElem?_getD, show p < l.length by omega]
    split
    · rename_i h2
      rw [h p (by omega) (by omega)] at h2
      exact absurd h2.2 (by simp)
    · rw [e]
/-- The list while it is put together. -/
def cpS (l : List Iss) (p : Nat) : List Iss := kN l p ++ l.drop (kN l p).length
theorem cpS_len {l : List Iss} {p : Nat} (h : p ≤ l.length) : (cpS l p).length = l.length := by
  have := kN_len l p
  simp [cpS]; omega
theorem cpS_at {l : List Iss} {p j : Nat} (hp : p < l.length) (h1 : (kN l p).length ≤ j) (h2 : j ≤ p) : (cpS l p)[j]? = some (l.getD j default) := by
  rw [cpS, List.getElem?_append_right h1, List.getElem?_drop]
  have : (kN l p).length + (j - (kN l p).length) = j := by omega
  rw [this]
  simp [List.getD_eq_getElem?_getD, show j < l.length by omega]
theorem cpS_keep {l : List Iss} {p : Nat} (hp : p < l.length) (h : ¬ (p ≠ 0 ∧ smN (l.getD p default) (l.getD (p - 1) default) = true)) : (cpS l p).set (kN l p).length (l.getD p default) = cpS l (p + 1) := by
  have hl := kN_len l p
  have e : kN l (p + 1) = kN l p ++ [l.getD p default] := by rw [kN, if_neg h]
  rw [cpS, cpS, e, List.set_append_right _ _ (by omega), Nat.sub_self, List.drop_eq_getElem_cons (by omega : (kN l p).length < l.length)]
  simp only [List.set_cons_zero, List.length_append, List.length_singleton, List.append_assoc, List.singleton_append]
theorem cpS_skip {l : List Iss} {p : Nat} (h : p ≠ 0 ∧ smN (l.getD p default) (l.getD (p - 1) default) = true) : cpS l (p + 1) = cpS l p ∧ kN l (p + 1) = kN l p := by
  have e : kN l (p + 1) = kN l p := by rw [kN, if_pos h]
  exact ⟨by rw [cpS, cpS, e], e⟩

def cmpct (l : List Iss) : List Iss := kN l l.length
def zrI : List AV := [.int .i64 0, .int .i64 0, .int .u8 0, .nils, .nils]
def cmpO (l : List Iss) : List (List AV) := (cmpct l).map isa ++ List.replicate (l.length - (cmpct l).length) zrI
def cmpV (k : Nat) (l : List Iss) : AV := if (cmpct l).length = l.length then .osl k l.length else .oss k l.length 0 (cmpct l).length
def fM2 : AV := .func (.func 95) [] []
theorem kN_lt {l : List Iss} {k : Nat} (hk0 : k ≠ 0) (hd : smN (l.getD k default) (l.getD (k - 1) default) = true) : ∀ p, k < p → (kN l p).length < p := by
  intro p hp
  induction p with
  | zero => omega
  | succ p ih =>
    by_cases h : p = k
    · subst h
      have := kN_len l p
      rw [kN, if_pos ⟨hk0, hd⟩]; omega
    · have := ih (by omega)
      rw [kN]; split <;> simp <;> omega
theorem getD_lt {l : List Iss} {p : Nat} (h : p < l.length) : l.getD p default = l[p] := by simp [List.getD_eq_getElem?_getD, h]
theorem cmp_noD {l : List Iss} (h : noD l l.length) : cmpct l = l := by rw [cmpct, kN_noD h (Nat.le_refl _), List.take_length]
theorem frz_cmpO (ok : Nat → Bool) (st : St) (l : List Iss) : frzO ok st (.row 5 (cmpO l)) = .row 5 (cmpO l) := by
  have h := frz_isa ok st (cmpct l)
  simp only [frzO, AObj.row.injEq, true_and] at h ⊢
  rw [cmpO, List.map_append, h]
  simp [zrI, frzA, frz, AV.keys]
section
variable {G : Nat → Option (List AV)}

theorem compact_pb (l : List Iss) (h3 : l.length ≤ 1000) :
    PB Tryd.prog G 94 [(1000, .row 5 (l.map isa))] [.osl 1000 l.length, fM2] (cmpV 1000 l) [(1000, .row 5 (cmpO l))] := by
  (refine pb_slices_CompactFunc_api_Issue_api_Issue (Nat.le_of_ble_eq_true rfl) fun R hG hrd => GO_AR mixed 1000 ?_; subst hG)
  simp -implicitDefEqProofs [rc_slices_CompactFunc_api_Issue_api_Issue, rr_slices_CompactFunc_api_Issue_api_Issue, fM2]
  by_cases hs : (l.length : Int) < 2
  · have e : cmpct l = l := cmp_noD fun j h1 h2 => by omega
    simp -implicitDefEqProofs [hs]
    refine ⟨[.osl 1000 l.length], ?_, ?_, ?_⟩
    · simp [evRess, evRes, frzSt, newK, frzA, frz, AV.keys, lk, St.tmp, rr_slices_CompactFunc_api_Issue_api_Issue]
    · simp [cmpV, e, tupV]
    · simp [frzSt, newK, frz_isa, cmpO, e]
  simp -implicitDefEqProofs [hs]
  refine AR_for (fun i => ⟨[(5, .int .i64 ((i : Int) + 1)), (0, .osl 1000 l.length), (1, fM2)], [(1000, .row 5 (l.map isa))]⟩) (fun i => noD l (i + 1)) (l.length - 1) ?_ (fun j h1 h2 => by omega) ?_ ?_
  · refine Weak.sub (by simp [lk, keptA, AV.keys, fM2]) ?_
    simp only [List.mem_cons, List.not_mem_nil, or_false, forall_eq_or_imp, forall_eq, isa_kept, and_true]
    simp [lk]
  · intro i hi hn
    refine GO_AR mixed 1000 ?_
    have k1 : (i : Int) + 1 < l.length := by omega
    have k2 : ((i : Int) + 1).toNat = i + 1 := by omega
    have k3 : (0 : Int) ≤ (i : Int) + 1 := by omega
    have k4 : i + 1 < l.length := by omega
    have k5 : i < l.length := by omega
    have w1 : IntKind.i64.wrap (i : Int) = i := wrapI (by omega) (by omega)
    have w2 : IntKind.i64.wrap ((i : Int) + 1 + 1) = (i : Int) + 1 + 1 := wrapI (by omega) (by omega)
    have ex : ∀ x, isa x = [.int .i64 x.d, .int .i64 x.l, .int .u8 x.k, .vsl (x.its.map ita), .vsl (x.dms.map dma)] := fun x => rfl
    simp -implicitDefEqProofs [fM2, k1, k2, k3, k4, k5, w1, ex]
    refine CallD.of (merge2_pc l[i + 1] l[i]) (by simp [AV.pure, isa]) ?_
    have hsm : smN (l.getD (i + 1) default) (l.getD i default) = decide (l[i + 1].d = l[i].d ∧ l[i + 1].l = l[i].l) := by rw [getD_lt k4, getD_lt k5]; rfl
    by_cases hd : l[i + 1].d = l[i].d ∧ l[i + 1].l = l[i].l
    · simp -implicitDefEqProofs [hd]
      refine ⟨rfl, ?_⟩
      rw [decide_eq_true hd] at hsm
      have hs2 : i + 1 ≠ 0 ∧ smN (l.getD (i + 1) default) (l.getD (i + 1 - 1) default) = true := ⟨by omega, hsm⟩
      have hk := kN_noD hn (by omega)
      have hk1 : (kN l (i + 1)).length = i + 1 := by rw [hk]; simp; omega
      obtain ⟨c1, c2⟩ := cpS_skip hs2
      have c3 : cpS l (i + 1) = l := by rw [cpS, hk1, hk, List.take_append_drop]
      have hkl := fun p => kN_lt (l := l) (k := i + 1) (by omega) hsm p
      have k6 : i + 1 ≤ l.length := by omega
      simp -implicitDefEqProofs [k2, k3, k6]
      refine AR_for (fun j => ⟨[(7, .int .i64 ((j : Int) + 1)), (6, .oss 1000 l.length (i + 1) l.length), (5, .int .i64 (kN l (i + 1 + 1 + j)).length), (0, .osl 1000 l.length), (1, .func (.func 95) [] [])], [(1000, .row 5 ((cpS l (i + 1 + 1 + j)).map isa))]⟩) (fun _ => True) (l.length - (i + 1 + 1)) ?_ trivial ?_ ?_
      · have z1 : cpS l (i + 1 + 1 + 0) = l := by rw [Nat.add_zero, c1, c3]
        have z2 : (kN l (i + 1 + 1 + 0)).length = i + 1 := by rw [Nat.add_zero, c2, hk1]
        rw [z1, z2]
        refine Weak.sub (by simp [lk, keptA, AV.keys]) ?_
        simp only [List.mem_cons, List.not_mem_nil, or_false, forall_eq_or_imp, forall_eq, isa_kept, and_true]
        simp [lk]
      · intro j hj _
        refine GO_AR mixed 1000 ?_
        have hq : i + 1 + 1 + j < l.length := by omega
        have hq2 : i + 1 + j < l.length := by omega
        have hml := hkl (i + 1 + 1 + j) (by omega)
        have hcl := cpS_len (l := l) (p := i + 1 + 1 + j) (by omega)
        have a1 := cpS_at (j := i + 1 + 1 + j) hq (by omega) (by omega)
        have a2 := cpS_at (j := i + 1 + j) hq (by omega) (by omega)
        rw [getD_lt hq] at a1
        rw [getD_lt hq2] at a2
        have hkeep := cpS_keep hq
        have hskip := cpS_skip (l := l) (p := i + 1 + 1 + j)
        have e3 : i + 1 + 1 + j - 1 = i + 1 + j := by omega
        have hkk : kN l (i + 1 + 1 + j + 1) = kN l (i + 1 + 1 + j + 1) := rfl
        conv at hkk => rhs; rw [kN]
        have hsm2 : smN (l.getD (i + 1 + 1 + j) default) (l.getD (i + 1 + j) default) = decide (l[i + 1 + 1 + j].d = l[i + 1 + j].d ∧ l[i + 1 + 1 + j].l = l[i + 1 + j].l) := by rw [getD_lt hq, getD_lt hq2]; rfl
        rw [e3, hsm2, getD_lt hq] at hkeep hkk
        rw [e3, hsm2] at hskip
        have e4 : i + 1 + 1 + (j + 1) = i + 1 + 1 + j + 1 := by omega
        have m1 : (j : Int) + 1 < ((l.length - (i + 1) : Nat) : Int) := by omega
        have m2 : ((j : Int) + 1).toNat = j + 1 := by omega
        have m3 : (0 : Int) ≤ (j : Int) + 1 := by omega
        have m4 : j + 1 < l.length - (i + 1) := by omega
        have m5 : j < l.length - (i + 1) := by omega
        have m6 : i + 1 + (j + 1) = i + 1 + 1 + j := by omega
        have u1 : IntKind.i64.wrap (j : Int) = j := wrapI (by omega) (by omega)
        have u2 : IntKind.i64.wrap ((j : Int) + 1 + 1) = (j : Int) + 1 + 1 := wrapI (by omega) (by omega)
        have u3 : IntKind.i64.wrap (((kN l (i + 1 + 1 + j)).length : Int) + 1) = (kN l (i + 1 + 1 + j)).length + 1 := wrapI (by omega) (by omega)
        have m7 : (kN l (i + 1 + 1 + j)).length < l.length := by omega
        have hpl := kN_len l (i + 1 + 1 + j)
        generalize cpS l (i + 1 + 1 + j) = Q at *
        obtain ⟨q1, g1⟩ := List.getElem?_eq_some_iff.1 a1
        obtain ⟨q2, g2⟩ := List.getElem?_eq_some_iff.1 a2
        generalize l[i + 1 + 1 + j] = x at *
        generalize l[i + 1 + j] = y at *
        have ex1 := ex x
        have ey1 := ex y
        simp -implicitDefEqProofs [m1, m2, m3, m4, m5, m6, u1, u2, hq, hq2, g1, g2, hcl, ex1, ey1]
        refine CallD.of (merge2_pc x y) (by simp [AV.pure, isa]) ?_
        by_cases hd2 : x.d = y.d ∧ x.l = y.l
        · obtain ⟨f1, f2⟩ := hskip ⟨by omega, decide_eq_true hd2⟩
          simp -implicitDefEqProofs [hd2, u2]
          refine ⟨rfl, ?_⟩
          rw [e4, f1, f2]
          refine Weak.sub (by simp [lk, keptA, AV.keys]) ?_
          simp only [List.mem_cons, List.not_mem_nil, or_false, forall_eq_or_imp, forall_eq, isa_kept, and_true]
          simp [lk]
        · have hn2 : ¬ (i + 1 + 1 + j ≠ 0 ∧ decide (x.d = y.d ∧ x.l = y.l) = true) := by
            rintro ⟨-, h⟩; exact hd2 (of_decide_eq_true h)
          have f1 := hkeep hn2
          rw [if_neg hn2] at hkk
          have il : ∀ z : Iss, (isa z).length = 5 := fun z => rfl
          have id5 : ∀ z : Iss, (isa z).drop 5 = [] := fun z => rfl
          have m8 : (((kN l (i + 1 + 1 + j)).length : Int) + 1) = ((kN l (i + 1 + 1 + j + 1)).length : Nat) := by rw [hkk]; simp
          simp -implicitDefEqProofs [hd2, m1, m2, m3, m4, m5, m6, u1, u2, u3, hq, hq2, g1, g2, hcl, ex1, ey1, m7, il, id5]
          refine ⟨rfl, ?_⟩
          rw [← ex1, ← List.map_set, f1, m8, e4]
          refine Weak.sub (by simp [lk, keptA, AV.keys]) ?_
          simp only [List.mem_cons, List.not_mem_nil, or_false, forall_eq_or_imp, forall_eq, isa_kept, and_true]
          simp [lk]
      · intro _
        refine GO_AR mixed 1000 ?_
        have n1 : ¬ (((l.length - (i + 1 + 1) : Nat) : Int) + 1 < ((l.length - (i + 1) : Nat) : Int)) := by omega
        have e5 : i + 1 + 1 + (l.length - (i + 1 + 1)) = l.length := by omega
        rw [e5]
        have hml := hkl l.length (by omega)
        have hcl := cpS_len (l := l) (p := l.length) (Nat.le_refl _)
        have n2 : (kN l l.length).length ≤ l.length := by omega
        simp -implicitDefEqProofs [n1, hcl]
        refine GO_ret mixed 1000 ?_
        simp -implicitDefEqProofs [hcl, n2]
        refine GO_ret mixed 1000 ?_
        have t1 : List.take (kN l l.length).length ((cpS l l.length).map isa) = (cmpct l).map isa := by
          rw [← List.map_take, cpS, List.take_left']; rfl
          rfl
        have t2 : List.drop l.length ((cpS l l.length).map isa) = [] := List.drop_of_length_le (by simp [hcl])
        rw [t1, t2, List.append_nil]
        have hne : ¬ (cmpct l).length = l.length := by rw [cmpct]; omega
        refine ⟨[.oss 1000 l.length 0 (kN l l.length).length], ?_, ?_, ?_⟩
        · simp [evRess, evRes, frzSt, newK, frzA, frz, AV.keys, lk, St.tmp]
        · rw [cmpV, if_neg hne]; rfl
        · have hz : List.map isa (cmpct l) ++ List.replicate (l.length - (kN l l.length).length) [AV.int .i64 0, AV.int .i64 0, AV.int .u8 0, AV.nils, AV.nils] = cmpO l := rfl
          rw [hz]
          simp [frzSt, newK, frz_cmpO]
    · rw [decide_eq_false hd] at hsm
      simp -implicitDefEqProofs [hd, w2]
      refine ⟨rfl, ?_, fun j h1 h2 => ?_⟩
      · ((try simp only [fM2]); refine Weak.sub (by simp [lk, keptA, AV.keys, fM2]) ?_; simp only [fM2, List.cons_append, List.nil_append, List.mem_cons, List.not_mem_nil, or_false, forall_eq_or_imp, forall_eq, isa_kept, and_true]; (try simp [lk, keptO, keptA, AV.keys, fM2]))
      · rcases Nat.lt_or_ge j (i + 1) with h | h
        · exact hn j h1 h
        · have : j = i + 1 := by omega
          subst this; exact hsm
  · intro hn
    refine GO_AR mixed 1000 ?_
    have k1 : ¬ ((l.length - 1 : Nat) : Int) + 1 < l.length := by omega
    have e : cmpct l = l := cmp_noD (by have : l.length - 1 + 1 = l.length := by omega
                                        rwa [this] at hn)
    simp -implicitDefEqProofs [k1, fM2]
    refine GO_ret mixed 1000 ?_
    simp -implicitDefEqProofs []
    refine ⟨[.osl 1000 l.length], ?_, ?_, ?_⟩
    · simp [evRess, evRes, frzSt, newK, frzA, frz, AV.keys, lk, St.tmp, rr_slices_CompactFunc_api_Issue_api_Issue]
    · simp [cmpV, e, tupV]
    · simp [frzSt, newK, frz_isa, cmpO, e]
end
end Go.Proofs.YtdpmioiamcgfkaaDoor

/-! Issues that are the same, by the abstract machine. -/
namespace Go.Proofs.YtdpmioiamcgfkaaDoor
open Go.RowKit
section
variable {G : Nat → Option (List AV)}

theorem equalI_pc (a b : List (Int × Int)) (ha : Sml a) : PC Tryd.prog G 137 [.vsl (a.map ita), .vsl (b.map ita)] (.bool (decide (a = b))) := by
  (refine pc_slices_Equal_api_Item_api_Item (Nat.le_of_ble_eq_true rfl) fun R hG hrd => GO_AR mixed 1000 ?_; subst hG)
  by_cases hl : a.length = b.length
  · have hl' : (a.length : Int) = b.length := by omega
    simp -implicitDefEqProofs [rc_slices_Equal_api_Item_api_Item, rr_slices_Equal_api_Item_api_Item, hl']
    refine AR_for (fun i => ⟨[(13, .int .i64 i), (12, .int .i64 a.length), (0, .vsl (a.map ita)), (1, .vsl (b.map ita))], []⟩) (fun i => ∀ j (h : j < a.length), j < i → a[j] = b[j]) a.length (by rw [hl']; (first | exact Weak.tm (by simp [lk]) | exact Weak.sub (by simp [lk, keptA, AV.keys]) (by simp [lk, keptO, keptA, AV.keys]))) (by simp) ?_ ?_
    · intro i hi he
      refine GO_AR mixed 1000 ?_
      unfold Sml at ha
      have hi2 : i < b.length := by omega
      have w1 : IntKind.i64.wrap ((i : Int) + 1) = ((i + 1 : Nat) : Int) := wrapI (by omega) (by omega)
      simp -implicitDefEqProofs [hi, hi2, ita]
      refine ⟨rfl, ?_⟩
      by_cases h2 : a[i] = b[i]
      · simp -implicitDefEqProofs [h2, w1]
        refine ⟨(by (first | exact Weak.tm (by simp [lk]) | exact Weak.sub (by simp [lk, keptA, AV.keys]) (by simp [lk, keptO, keptA, AV.keys]))), fun j h1 h3 => ?_⟩
        by_cases e : j = i
        · subst e; exact h2
        · exact he j h1 (by omega)
      · have h3 : ¬ a = b := fun e => h2 (by subst e; rfl)
        rw [pair_ne h2]
        simp -implicitDefEqProofs []
        refine GO_ret mixed 1000 ?_
        simp -implicitDefEqProofs [h3]
    · intro he
      refine GO_AR mixed 1000 ?_
      have h3 : a = b := List.ext_getElem hl fun j h1 h2 => he j h1 h1
      simp -implicitDefEqProofs []
      refine GO_ret mixed 1000 ?_
      simp -implicitDefEqProofs [h3]
  · have hl' : ¬ (a.length : Int) = b.length := by omega
    have h3 : ¬ a = b := fun e => hl (by rw [e])
    simp -implicitDefEqProofs [rc_slices_Equal_api_Item_api_Item, rr_slices_Equal_api_Item_api_Item, hl', h3]
theorem equalD_pc (a b : List Dm) (ha : Sml a) : PC Tryd.prog G 129 [.vsl (a.map dma), .vsl (b.map dma)] (.bool (decide (a = b))) := by
  (refine pc_slices_Equal_api_Dim_api_Dim (Nat.le_of_ble_eq_true rfl) fun R hG hrd => GO_AR mixed 1000 ?_; subst hG)
  by_cases hl : a.length = b.length
  · have hl' : (a.length : Int) = b.length := by omega
    simp -implicitDefEqProofs [rc_slices_Equal_api_Dim_api_Dim, rr_slices_Equal_api_Dim_api_Dim, hl']
    refine AR_for (fun i => ⟨[(13, .int .i64 i), (12, .int .i64 a.length), (0, .vsl (a.map dma)), (1, .vsl (b.map dma))], []⟩) (fun i => ∀ j (h : j < a.length), j < i → a[j] = b[j]) a.length (by rw [hl']; (first | exact Weak.tm (by simp [lk]) | exact Weak.sub (by simp [lk, keptA, AV.keys]) (by simp [lk, keptO, keptA, AV.keys]))) (by simp) ?_ ?_
    · intro i hi he
      refine GO_AR mixed 1000 ?_
      unfold Sml at ha
      have hi2 : i < b.length := by omega
      have w1 : IntKind.i64.wrap ((i : Int) + 1) = ((i + 1 : Nat) : Int) := wrapI (by omega) (by omega)
      simp -implicitDefEqProofs [hi, hi2, dma]
      refine ⟨rfl, ?_⟩
      by_cases h2 : a[i] = b[i]
      · simp -implicitDefEqProofs [h2, w1]
        refine ⟨(by (first | exact Weak.tm (by simp [lk]) | exact Weak.sub (by simp [lk, keptA, AV.keys]) (by simp [lk, keptO, keptA, AV.keys]))), fun j h1 h3 => ?_⟩
        by_cases e : j = i
        · subst e; exact h2
        · exact he j h1 (by omega)
      · have h3 : ¬ a = b := fun e => h2 (by subst e; rfl)
        rw [dm_ne h2]
        simp -implicitDefEqProofs []
        refine GO_ret mixed 1000 ?_
        simp -implicitDefEqProofs [h3]
    · intro he
      refine GO_AR mixed 1000 ?_
      have h3 : a = b := List.ext_getElem hl fun j h1 h2 => he j h1 h1
      simp -implicitDefEqProofs []
      refine GO_ret mixed 1000 ?_
      simp -implicitDefEqProofs [h3]
  · have hl' : ¬ (a.length : Int) = b.length := by omega
    have h3 : ¬ a = b := fun e => hl (by rw [e])
    simp -implicitDefEqProofs [rc_slices_Equal_api_Dim_api_Dim, rr_slices_Equal_api_Dim_api_Dim, hl', h3]

theorem sameC_pc (x y : Iss) (h : Sml x.dms) : PC Tryd.prog G 128 [.vptr (isa x) 0, .vptr (isa y) 0] (.bool (decide (x.dms = y.dms))) := by
  (refine pc_sheet_same_1 (Nat.le_of_ble_eq_true rfl) fun R hG hrd => GO_AR mixed 1000 ?_; subst hG)
  simp -implicitDefEqProofs [rc_sheet_same_1, rr_sheet_same_1, isa]
  (first | refine CallK.of (equalD_pc x.dms y.dms h) (by simp) ?_ | refine CallD.of (equalD_pc x.dms y.dms h) (by simp) ?_)
  simp -implicitDefEqProofs []
theorem alike_pc (a b : List (Int × Int)) (x y : Iss) (h1 : Sml a) (h2 : Sml x.dms) : PC Tryd.prog G 127 [.vsl (a.map ita), .vsl (b.map ita), .func (.func 128) [] [.vptr (isa x) 0, .vptr (isa y) 0]] (.bool (decide (a = b) && decide (x.dms = y.dms))) := by
  (refine pc_sheet_alike_api_Item (Nat.le_of_ble_eq_true rfl) fun R hG hrd => GO_AR mixed 1000 ?_; subst hG)
  simp -implicitDefEqProofs [rc_sheet_alike_api_Item, rr_sheet_alike_api_Item]
  (first | refine CallK.of (equalI_pc a b h1) (by simp) ?_ | refine CallD.of (equalI_pc a b h1) (by simp) ?_)
  by_cases e : a = b
  · simp -implicitDefEqProofs [e]
    refine CallK.of (sameC_pc x y h2) (by simp [AV.pure, isa]) ?_
    simp -implicitDefEqProofs []
  · simp -implicitDefEqProofs [e]
theorem sameS_pc (x y : Iss) (h1 : Sml x.its) (h2 : Sml x.dms) : PC Tryd.prog G 114 [.agg (isa x), .agg (isa y)] (.bool (decide (x = y))) := by
  (refine pc_sheet_same (Nat.le_of_ble_eq_true rfl) fun R hG hrd => GO_AR mixed 1000 ?_; subst hG)
  have hd : decide (x = y) = (decide (x.d = y.d) && decide (x.l = y.l) && decide (x.k = y.k) && (decide (x.its = y.its) && decide (x.dms = y.dms))) := by
    rw [Bool.eq_iff_iff]
    simp only [decide_eq_true_eq, Bool.and_eq_true]
    constructor
    · rintro rfl; simp
    · rintro ⟨⟨⟨e1, e2⟩, e3⟩, e4, e5⟩
      cases x; cases y; simp_all
  have ex : isa x = [.int .i64 x.d, .int .i64 x.l, .int .u8 x.k, .vsl (x.its.map ita), .vsl (x.dms.map dma)] := rfl
  have ey : isa y = [.int .i64 y.d, .int .i64 y.l, .int .u8 y.k, .vsl (y.its.map ita), .vsl (y.dms.map dma)] := rfl
  simp -implicitDefEqProofs [rc_sheet_same, rr_sheet_same, ex, ey, hd]
  (first | refine CallK.of (name_pc x) (by simp) ?_ | refine CallD.of (name_pc x) (by simp) ?_)
  simp -implicitDefEqProofs []
  (first | refine CallK.of (name_pc y) (by simp) ?_ | refine CallD.of (name_pc y) (by simp) ?_)
  cases e1 : decide (x.d = y.d)
  · have e1' := of_decide_eq_false e1
    simp -implicitDefEqProofs [e1']
    exact rfl
  have e1' := of_decide_eq_true e1
  cases e2 : decide (x.l = y.l)
  · have e2' := of_decide_eq_false e2
    simp -implicitDefEqProofs [e1', e2']
    exact rfl
  have e2' := of_decide_eq_true e2
  cases e3 : decide (x.k = y.k)
  · have e3' := of_decide_eq_false e3
    simp -implicitDefEqProofs [e1', e2', e3']
    exact rfl
  have e3' := of_decide_eq_true e3
  simp -implicitDefEqProofs [e1', e2', e3']
  have al := alike_pc (G := R.G) x.its y.its x y h1 h2
  rw [ex, ey, e1', e2', e3'] at al
  refine CallD.flat al (by simp [AV.flat]) (by simp) ?_
  simp -implicitDefEqProofs []
  exact rfl
end
end Go.Proofs.YtdpmioiamcgfkaaDoor

/-! What clashes, by the abstract machine. -/
namespace Go.Proofs.YtdpmioiamcgfkaaDoor
open Go.RowKit

def clB (b : List Iss) (x : Iss) : Bool := match findN x.d x.l b with
  | some y => !decide (x = y)
  | none => false
def clN (a b : List Iss) (i : Nat) : List (Int × Int) := ((a.take i).filter (clB b)).map fun x => (x.d, x.l)
theorem clN_succ {a b : List Iss} {i : Nat} (h : i < a.length) : clN a b (i + 1) = if clB b a[i] = true then clN a b i ++ [(a[i].d, a[i].l)] else clN a b i := by
  rw [clN, List.take_succ_eq_append_getElem h, List.filter_append, List.map_append]
  split
  · rename_i e; simp [clN, List.filter_cons, e]
  · rename_i e; simp [clN, List.filter_cons, e]
theorem clN_len (a b : List Iss) (i : Nat) : (clN a b i).length ≤ i := by
  simp only [clN, List.length_map]
  exact Nat.le_trans (List.length_filter_le _ _) (by simp; omega)
def bothE (a b : List Iss) : Int := if openV a = 0 then openV b else openV a
def clE (a b : List Iss) : List (Int × Int) := if bothE a b = 0 then clN a b a.length else []
def clS (a b : List Iss) (i : Nat) : St := if clN a b i = [] then ⟨[(31, .int .i64 i), (30, .int .i64 a.length), (29, .vsl (a.map isa)), (8, bkA b (nums b)), (10, .nils)], []⟩
  else ⟨[(31, .int .i64 i), (30, .int .i64 a.length), (29, .vsl (a.map isa)), (8, bkA b (nums b)), (10, .osl 53 (clN a b i).length)], [(53, .row 2 ((clN a b i).map ita))]⟩
section
variable {G : Nat → Option (List AV)}

theorem clash_pc (hG : GC G) (a b : List Iss) (ha : Wf a) (hb : Wf b) : ∃ bk, PC Tryd.prog G 87 [rega a, rega b] (.tup [.vsl ((clE a b).map ita), bk, .int .i64 (bothE a b)]) := by
  by_cases k1 : openV a = 0
  case neg =>
    refine ⟨_, PC.nzR (v := .tup [.nils, .nilp, .int .i64 (openV a)]) ?_ (by simp [nz, clE, bothE, k1]; rfl)⟩
    (refine pc_sheet_clash (Nat.le_of_ble_eq_true rfl) fun R hG hrd => GO_AR mixed 1000 ?_; subst hG)
    simp -implicitDefEqProofs [rc_sheet_clash, rr_sheet_clash, rega]
    (first | refine CallK.of (checkP_pc hG a ha) (by simp) ?_ | refine CallD.of (checkP_pc hG a ha) (by simp) ?_)
    simp -implicitDefEqProofs [k1]
  by_cases k2 : openV b = 0
  case neg =>
    refine ⟨_, PC.nzR (v := .tup [.nils, .nilp, .int .i64 (openV b)]) ?_ (by simp [nz, clE, bothE, k1, k2]; rfl)⟩
    (refine pc_sheet_clash (Nat.le_of_ble_eq_true rfl) fun R hG hrd => GO_AR mixed 1000 ?_; subst hG)
    simp -implicitDefEqProofs [rc_sheet_clash, rr_sheet_clash, rega]
    (first | refine CallK.of (checkP_pc hG a ha) (by simp) ?_ | refine CallD.of (checkP_pc hG a ha) (by simp) ?_)
    simp -implicitDefEqProofs [k1]
    (first | refine CallK.of (open_pc hG b hb) (by simp) ?_ | refine CallD.of (open_pc hG b hb) (by simp) ?_)
    simp -implicitDefEqProofs [openA, k2]
  have hL := open_listed k2
  have hO := ord_of hL
  have ev : clE a b = clN a b a.length := by simp [clE, bothE, k1, k2]
  have eb : bothE a b = 0 := by simp [bothE, k1, k2]
  rw [ev, eb]
  refine ⟨bkA b (nums b), PC.nzR (v := .tup [orNil ((clN a b a.length).map ita), bkA b (nums b), .int .i64 0]) ?_ (by simp [nz, nz_orNil, bkA])⟩
  (refine pc_sheet_clash (Nat.le_of_ble_eq_true rfl) fun R hG hrd => GO_AR mixed 1000 ?_; subst hG)
  have hs := ha.1.1
  unfold Sml at hs
  simp -implicitDefEqProofs [rc_sheet_clash, rr_sheet_clash, rega]
  (first | refine CallK.of (checkP_pc hG a ha) (by simp) ?_ | refine CallD.of (checkP_pc hG a ha) (by simp) ?_)
  simp -implicitDefEqProofs [k1]
  (first | refine CallK.of (open_pc hG b hb) (by simp) ?_ | refine CallD.of (open_pc hG b hb) (by simp) ?_)
  simp -implicitDefEqProofs [openA, k2]
  refine AR_for (clS a b) (fun _ => True) a.length ?_ trivial ?_ ?_
  · have e0 : clN a b 0 = [] := rfl
    simp only [clS, e0, if_true]
    (first | exact Weak.tm (by simp [lk, bkA, AV.keys]) | exact Weak.sub (by simp [lk, keptA, AV.keys, bkA, AV.keys]) (by simp [lk, keptO, keptA, AV.keys, bkA, AV.keys]))
  · intro i hi _
    refine GO_AR mixed 1000 ?_
    have w1 : IntKind.i64.wrap ((i : Int) + 1) = ((i + 1 : Nat) : Int) := wrapI (by omega) (by omega)
    have hx := ha.1.2 a[i] (List.getElem_mem hi)
    have hs := clN_succ (b := b) hi
    have bl := clN_len a b i
    have bb : ((clN a b i).length + 1) * 16 ≤ 70368744177664 := by omega
    have ex : isa a[i] = [.int .i64 a[i].d, .int .i64 a[i].l, .int .u8 a[i].k, .vsl (a[i].its.map ita), .vsl (a[i].dms.map dma)] := rfl
    cases q : findN a[i].d a[i].l b with
    | none =>
      have qb : clB b a[i] = false := by simp [clB, q]
      rw [if_neg (by simp [qb])] at hs
      by_cases z : clN a b i = []
      · rw [z] at hs
        simp -implicitDefEqProofs [clS, z, hi, ex]
        (first | refine CallK.of (name_pc a[i]) (by simp) ?_ | refine CallD.of (name_pc a[i]) (by simp) ?_)
        simp -implicitDefEqProofs [clS]
        (first | refine CallK.of (find_pcS b (nums b) a[i].d a[i].l (ord_map hO) hb.1.1 (find_own hL)) (by simp) ?_ | refine CallD.of (find_pcS b (nums b) a[i].d a[i].l (ord_map hO) hb.1.1 (find_own hL)) (by simp) ?_)
        simp -implicitDefEqProofs [clS, q, fndA, noIs, w1, hs]
        ((try simp only [ita, keys_bkA]); refine Weak.sub (by simp [lk, keptA, AV.keys, ita, keys_bkA]) ?_; simp only [ita, keys_bkA, List.cons_append, List.nil_append, List.mem_cons, List.not_mem_nil, or_false, forall_eq_or_imp, forall_eq, ita_kept, and_true]; (try simp [lk, keptO, keptA, AV.keys, ita, keys_bkA]))
      · simp -implicitDefEqProofs [clS, z, hi, ex]
        (first | refine CallK.of (name_pc a[i]) (by simp) ?_ | refine CallD.of (name_pc a[i]) (by simp) ?_)
        simp -implicitDefEqProofs [clS]
        (first | refine CallK.of (find_pcS b (nums b) a[i].d a[i].l (ord_map hO) hb.1.1 (find_own hL)) (by simp) ?_ | refine CallD.of (find_pcS b (nums b) a[i].d a[i].l (ord_map hO) hb.1.1 (find_own hL)) (by simp) ?_)
        simp -implicitDefEqProofs [clS, q, fndA, noIs, w1, hs, z]
        ((try simp only [ita, keys_bkA]); refine Weak.sub (by simp [lk, keptA, AV.keys, ita, keys_bkA]) ?_; simp only [ita, keys_bkA, List.cons_append, List.nil_append, List.mem_cons, List.not_mem_nil, or_false, forall_eq_or_imp, forall_eq, ita_kept, and_true]; (try simp [lk, keptO, keptA, AV.keys, ita, keys_bkA]))
    | some y =>
      have ey : isa y = [.int .i64 y.d, .int .i64 y.l, .int .u8 y.k, .vsl (y.its.map ita), .vsl (y.dms.map dma)] := rfl
      have qb : clB b a[i] = !decide (a[i] = y) := by simp [clB, q]
      rw [qb] at hs
      cases q2 : decide (a[i] = y)
      · simp only [q2, Bool.not_false, if_true] at hs
        by_cases z : clN a b i = []
        · rw [z] at hs
          simp -implicitDefEqProofs [clS, z, hi, ex]
          (first | refine CallK.of (name_pc a[i]) (by simp) ?_ | refine CallD.of (name_pc a[i]) (by simp) ?_)
          simp -implicitDefEqProofs [clS]
          (first | refine CallK.of (find_pcS b (nums b) a[i].d a[i].l (ord_map hO) hb.1.1 (find_own hL)) (by simp) ?_ | refine CallD.of (find_pcS b (nums b) a[i].d a[i].l (ord_map hO) hb.1.1 (find_own hL)) (by simp) ?_)
          simp -implicitDefEqProofs [clS, q, fndA, ey]
          (first | refine CallK.of (sameS_pc a[i] y hx.1 hx.2) (by simp) ?_ | refine CallD.of (sameS_pc a[i] y hx.1 hx.2) (by simp) ?_)
          simp -implicitDefEqProofs [clS, q2]
          (first | refine CallK.of (name_pc a[i]) (by simp) ?_ | refine CallD.of (name_pc a[i]) (by simp) ?_)
          simp -implicitDefEqProofs [clS, w1, hs]
          ((try simp only [ita, keys_bkA]); refine Weak.sub (by simp [lk, keptA, AV.keys, ita, keys_bkA]) ?_; simp only [ita, keys_bkA, List.cons_append, List.nil_append, List.mem_cons, List.not_mem_nil, or_false, forall_eq_or_imp, forall_eq, ita_kept, and_true]; (try simp [lk, keptO, keptA, AV.keys, ita, keys_bkA]))
        · simp -implicitDefEqProofs [clS, z, hi, ex]
          (first | refine CallK.of (name_pc a[i]) (by simp) ?_ | refine CallD.of (name_pc a[i]) (by simp) ?_)
          simp -implicitDefEqProofs [clS]
          (first | refine CallK.of (find_pcS b (nums b) a[i].d a[i].l (ord_map hO) hb.1.1 (find_own hL)) (by simp) ?_ | refine CallD.of (find_pcS b (nums b) a[i].d a[i].l (ord_map hO) hb.1.1 (find_own hL)) (by simp) ?_)
          simp -implicitDefEqProofs [clS, q, fndA, ey]
          (first | refine CallK.of (sameS_pc a[i] y hx.1 hx.2) (by simp) ?_ | refine CallD.of (sameS_pc a[i] y hx.1 hx.2) (by simp) ?_)
          simp -implicitDefEqProofs [clS, q2]
          (first | refine CallK.of (name_pc a[i]) (by simp) ?_ | refine CallD.of (name_pc a[i]) (by simp) ?_)
          simp -implicitDefEqProofs [clS, w1, hs, z, bb]
          ((try simp only [ita, keys_bkA]); refine Weak.sub (by simp [lk, keptA, AV.keys, ita, keys_bkA]) ?_; simp only [ita, keys_bkA, List.cons_append, List.nil_append, List.mem_cons, List.not_mem_nil, or_false, forall_eq_or_imp, forall_eq, ita_kept, and_true]; (try simp [lk, keptO, keptA, AV.keys, ita, keys_bkA]))
      · simp only [q2, Bool.not_true, Bool.false_eq_true, if_false] at hs
        by_cases z : clN a b i = []
        · rw [z] at hs
          simp -implicitDefEqProofs [clS, z, hi, ex]
          (first | refine CallK.of (name_pc a[i]) (by simp) ?_ | refine CallD.of (name_pc a[i]) (by simp) ?_)
          simp -implicitDefEqProofs [clS]
          (first | refine CallK.of (find_pcS b (nums b) a[i].d a[i].l (ord_map hO) hb.1.1 (find_own hL)) (by simp) ?_ | refine CallD.of (find_pcS b (nums b) a[i].d a[i].l (ord_map hO) hb.1.1 (find_own hL)) (by simp) ?_)
          simp -implicitDefEqProofs [clS, q, fndA, ey]
          (first | refine CallK.of (sameS_pc a[i] y hx.1 hx.2) (by simp) ?_ | refine CallD.of (sameS_pc a[i] y hx.1 hx.2) (by simp) ?_)
          simp -implicitDefEqProofs [clS, q2, w1, hs]
          ((try simp only [ita, keys_bkA]); refine Weak.sub (by simp [lk, keptA, AV.keys, ita, keys_bkA]) ?_; simp only [ita, keys_bkA, List.cons_append, List.nil_append, List.mem_cons, List.not_mem_nil, or_false, forall_eq_or_imp, forall_eq, ita_kept, and_true]; (try simp [lk, keptO, keptA, AV.keys, ita, keys_bkA]))
        · simp -implicitDefEqProofs [clS, z, hi, ex]
          (first | refine CallK.of (name_pc a[i]) (by simp) ?_ | refine CallD.of (name_pc a[i]) (by simp) ?_)
          simp -implicitDefEqProofs [clS]
          (first | refine CallK.of (find_pcS b (nums b) a[i].d a[i].l (ord_map hO) hb.1.1 (find_own hL)) (by simp) ?_ | refine CallD.of (find_pcS b (nums b) a[i].d a[i].l (ord_map hO) hb.1.1 (find_own hL)) (by simp) ?_)
          simp -implicitDefEqProofs [clS, q, fndA, ey]
          (first | refine CallK.of (sameS_pc a[i] y hx.1 hx.2) (by simp) ?_ | refine CallD.of (sameS_pc a[i] y hx.1 hx.2) (by simp) ?_)
          simp -implicitDefEqProofs [clS, q2, w1, hs, z]
          ((try simp only [ita, keys_bkA]); refine Weak.sub (by simp [lk, keptA, AV.keys, ita, keys_bkA]) ?_; simp only [ita, keys_bkA, List.cons_append, List.nil_append, List.mem_cons, List.not_mem_nil, or_false, forall_eq_or_imp, forall_eq, ita_kept, and_true]; (try simp [lk, keptO, keptA, AV.keys, ita, keys_bkA]))
  · intro _
    refine GO_AR mixed 1000 ?_
    by_cases z : clN a b a.length = []
    · simp -implicitDefEqProofs [clS, z]
      refine GO_ret mixed 1000 ?_
      simp -implicitDefEqProofs [z, orNil, bkA]
    · have pu : ((clN a b a.length).map ita).all (fun r => r.all AV.pure) = true := by simp [ita, AV.pure]
      simp -implicitDefEqProofs [clS, z]
      refine GO_ret mixed 1000 ?_
      simp -implicitDefEqProofs [z, pu, orNil, bkA]
end
end Go.Proofs.YtdpmioiamcgfkaaDoor

/-! Registers put together: plain; copies. -/
namespace Go.Proofs.YtdpmioiamcgfkaaDoor
open Go.RowKit

def mgL (a b : List Iss) : List Iss := cmpct (sortN (a ++ b))
def mgE (a b : List Iss) : List Iss × Int := if bothE a b = 0 then if clN a b a.length = [] then if openV (mgL a b) = 0 then (mgL a b, 0) else ([], openV (mgL a b)) else ([], 23) else ([], bothE a b)

theorem issB_okN {x : Iss} (h : issB x = true) : okN x := by
  simp only [issB, headB, Bool.and_eq_true, inR, decide_eq_true_eq] at h
  obtain ⟨⟨⟨⟨⟨h1, h2⟩, -⟩, -⟩, -⟩, -⟩ := h
  exact ⟨h1.1, h1.2, h2.1, h2.2⟩
theorem listed_okN {r : List Iss} (h : listedB r = true) : ∀ x ∈ r, okN x := fun x hx => by
  simp only [listedB, Bool.and_eq_true] at h
  exact issB_okN (List.all_eq_true.1 h.1.1.1.2 x hx)
theorem listed_inj {r : List Iss} (h : listedB r = true) : InjN r := fun x hx y hy e => by
  obtain ⟨e1, e2⟩ := (kyN_eq (listed_okN h x hx) (listed_okN h y hy)).1 e
  have f1 := find_own h x hx
  have f2 := find_own h y hy
  rw [e1, e2, f2] at f1
  exact (Option.some.inj f1).symm
theorem mg_inj {a b : List Iss} (ha : listedB a = true) (hb : listedB b = true) (hc : clN a b a.length = []) : InjN (a ++ b) := by
  have hcl : ∀ x ∈ a, clB b x = false := fun x hx => by
    have : (a.take a.length).filter (clB b) = [] := by simpa [clN] using hc
    rw [List.take_length, List.filter_eq_nil_iff] at this
    simpa using this x hx
  have hab : ∀ x ∈ a, ∀ y ∈ b, kyN x = kyN y → x = y := fun x hx y hy e => by
    obtain ⟨e1, e2⟩ := (kyN_eq (listed_okN ha x hx) (listed_okN hb y hy)).1 e
    have f2 := find_own hb y hy
    have := hcl x hx
    rw [clB, e1, e2, f2] at this
    simpa using this
  intro x hx y hy e
  rcases List.mem_append.1 hx with hx | hx <;> rcases List.mem_append.1 hy with hy | hy
  · exact listed_inj ha x hx y hy e
  · exact hab x hx y hy e
  · exact (hab y hy x hx e.symm).symm
  · exact listed_inj hb x hx y hy e
theorem kN_mem {l : List Iss} {x : Iss} : ∀ {p : Nat}, p ≤ l.length → x ∈ kN l p → x ∈ l
  | 0, _, h => by cases h
  | p + 1, hp, h => by
    rw [kN] at h
    split at h
    · exact kN_mem (by omega) h
    · rcases List.mem_append.1 h with h | h
      · exact kN_mem (by omega) h
      · rw [List.mem_singleton] at h
        rw [h, getD_lt (by omega : p < l.length)]
        exact List.getElem_mem _
theorem mgL_mem {a b : List Iss} {x : Iss} (h : x ∈ mgL a b) : x ∈ a ++ b := sortN_mem.1 (kN_mem (Nat.le_refl _) h)
theorem mgL_len (a b : List Iss) : (mgL a b).length ≤ a.length + b.length := by
  have := kN_len (sortN (a ++ b)) (sortN (a ++ b)).length
  rw [sortN_len, List.length_append] at this
  rw [mgL, cmpct, sortN_len, List.length_append]; exact this
theorem mgL_wf {a b : List Iss} (ha : Wf a) (hb : Wf b) (h1 : a.length ≤ 400) (h2 : b.length ≤ 400) : Wf (mgL a b) := by
  refine ⟨⟨?_, fun x hx => ?_⟩, fun x hx => ?_⟩
  · have := mgL_len a b
    unfold Sml; omega
  · rcases List.mem_append.1 (mgL_mem hx) with h | h
    · exact ha.1.2 x h
    · exact hb.1.2 x h
  · rcases List.mem_append.1 (mgL_mem hx) with h | h
    · exact ha.2 x h
    · exact hb.2 x h
section
variable {G : Nat → Option (List AV)}

theorem copied_pc (x : Iss) (h1 : Sml x.its) (h2 : Sml x.dms) : PC Tryd.prog G 73 [.agg (isa x)] (.agg (isa x)) := by
  have p1 : (x.its.map ita).all (fun r => r.all AV.pure) = true := by simp [ita, AV.pure]
  have p2 : (x.dms.map dma).all (fun r => r.all AV.pure) = true := by simp [dma, AV.pure]
  (refine pc_sheet_copied (Nat.le_of_ble_eq_true rfl) fun R hG hrd => GO_AR mixed 1000 ?_; subst hG)
  by_cases e1 : x.its = [] <;> by_cases e2 : x.dms = []
  · simp -implicitDefEqProofs [rc_sheet_copied, rr_sheet_copied, isa, e1, e2]
    refine CallND.of cloneI_pc0 (by simp) ?_
    simp -implicitDefEqProofs []
    refine CallND.of cloneD_pc0 (by simp) ?_
    simp -implicitDefEqProofs []
    exact rfl
  · simp -implicitDefEqProofs [rc_sheet_copied, rr_sheet_copied, isa, e1]
    refine CallND.of cloneI_pc0 (by simp) ?_
    simp -implicitDefEqProofs []
    refine CallND.new (cloneD_pn _ e2 h2) (by simp) (by simp [lk, St.get]) ?_
    simp -implicitDefEqProofs [p2]
    exact rfl
  · simp -implicitDefEqProofs [rc_sheet_copied, rr_sheet_copied, isa, e2]
    refine CallND.new (cloneI_pn _ e1 h1) (by simp) (by simp [lk, St.get]) ?_
    simp -implicitDefEqProofs []
    refine CallND.of cloneD_pc0 (by simp) ?_
    simp -implicitDefEqProofs [p1]
    exact rfl
  · simp -implicitDefEqProofs [rc_sheet_copied, rr_sheet_copied, isa]
    refine CallND.new (cloneI_pn _ e1 h1) (by simp) (by simp [lk, St.get]) ?_
    simp -implicitDefEqProofs []
    refine CallND.new (cloneD_pn _ e2 h2) (by simp) (by simp [lk, St.get]) ?_
    simp -implicitDefEqProofs [p1, p2]
    exact rfl
end
end Go.Proofs.YtdpmioiamcgfkaaDoor

/-! Registers put together, by the abstract machine. -/
namespace Go.Proofs.YtdpmioiamcgfkaaDoor
open Go.RowKit

def fM (l : List Iss) (i : Nat) : St := match i with
  | 0 => ⟨[(35, .int .i64 0), (34, .int .i64 l.length), (33, .vsl (l.map isa)), (9, .ptr 9 0), (4, .ptr 4 0)], [(9, .box [.nils]), (4, .box [.nils])]⟩
  | i + 1 => ⟨[(35, .int .i64 (i + 1 : Nat)), (34, .int .i64 l.length), (33, .vsl (l.map isa)), (9, .ptr 9 0), (4, .ptr 4 0)], [(9, .box [.osl 44 (i + 1)]), (4, .box [.nils]), (44, .row 5 (twR l (i + 1)))]⟩
section
variable {G : Nat → Option (List AV)}

set_option maxHeartbeats 1000000 in
theorem merge_few_pc (hG : GC G) (a b : List Iss) (ha : Wf a) (hb : Wf b) (hs : bothE a b = 0 → a.length + b.length < 20) : PC Tryd.prog G 49 [rega a, rega b] (.tup [rega (mgE a b).1, .int .i64 (mgE a b).2]) := by
  obtain ⟨bk, hcl⟩ := clash_pc hG a b ha hb
  by_cases k0 : bothE a b = 0
  case neg =>
    refine PC.nzR (v := .tup [.agg [.nils], .int .i64 (bothE a b)]) ?_ (by simp [nz, mgE, k0, rega])
    (refine pc_sheet_Merge (Nat.le_of_ble_eq_true rfl) fun R hG hrd => GO_AR mixed 1000 ?_; subst hG)
    simp -implicitDefEqProofs [rc_sheet_Merge, rr_sheet_Merge, rega]
    rw [rega, rega] at hcl
    (first | refine CallK.of (hcl) (by simp) ?_ | refine CallD.of (hcl) (by simp) ?_)
    simp -implicitDefEqProofs [k0]
  by_cases k1 : clN a b a.length = []
  case neg =>
    refine PC.nzR (v := .tup [.agg [.nils], .int .i64 23]) ?_ (by simp [nz, mgE, k0, k1, rega])
    have ev : clE a b = clN a b a.length := by simp [clE, k0]
    have hl : 0 < (clN a b a.length).length := List.length_pos_iff.2 k1
    (refine pc_sheet_Merge (Nat.le_of_ble_eq_true rfl) fun R hG hrd => GO_AR mixed 1000 ?_; subst hG)
    simp -implicitDefEqProofs [rc_sheet_Merge, rr_sheet_Merge, rega]
    rw [rega, rega, ev] at hcl
    (first | refine CallK.of (hcl) (by simp) ?_ | refine CallD.of (hcl) (by simp) ?_)
    simp -implicitDefEqProofs [k0, hl]
  have ev : clE a b = [] := by simp [clE, k0, k1]
  have oa : openV a = 0 := by
    unfold bothE at k0; split at k0
    · assumption
    · exact k0
  have ob : openV b = 0 := by simpa [bothE, oa] using k0
  have la := open_listed oa
  have lb := open_listed ob
  have sa := listed_60 la
  have sb := listed_60 lb
  have na : a ≠ [] := by rintro rfl; simp at sa
  have nb : b ≠ [] := by rintro rfl; simp at sb
  have hwf := mgL_wf ha hb (by omega) (by omega)
  have hsm := hs k0
  have hin := mg_inj la lb k1
  have hok : ∀ x ∈ a ++ b, okN x := fun x hx => by
    rcases List.mem_append.1 hx with h | h
    · exact listed_okN la x h
    · exact listed_okN lb x h
  have hcc := concat_pc (G := G) a b na nb (by omega) (by omega)
  have hwx : ∀ x ∈ a ++ b, Sml x.its ∧ Sml x.dms := fun x hx => by
    rcases List.mem_append.1 hx with h | h
    · exact ha.1.2 x h
    · exact hb.1.2 x h
  have hll : (a ++ b).length < 20 := by rw [List.length_append]; exact hsm
  have hl0 : 0 < (a ++ b).length := by rw [List.length_append]; omega
  have hsp := sort_few_pb (G := G) (a ++ b) hok hin hll
  have hcp := compact_pb (G := G) (sortN (a ++ b)) (by rw [sortN_len]; omega)
  have hck := checkP_pc hG (mgL a b) hwf
  have hmv : mgE a b = if openV (mgL a b) = 0 then (mgL a b, 0) else ([], openV (mgL a b)) := by simp [mgE, k0, k1]
  have hcm : cmpct (sortN (a ++ b)) = mgL a b := rfl
  have hmn := mgL_len a b
  rw [hmv]
  rw [rega, rega, ev, k0] at hcl
  refine PC.nzR (v := .tup [.agg [if openV (mgL a b) = 0 then .vsl ((mgL a b).map isa) else .nils], .int .i64 (openV (mgL a b))]) ?_ (by by_cases ko : openV (mgL a b) = 0 <;> simp [nz, ko, rega])
  (refine pc_sheet_Merge (Nat.le_of_ble_eq_true rfl) fun R hG hrd => GO_AR mixed 1000 ?_; subst hG)
  simp -implicitDefEqProofs [rc_sheet_Merge, rr_sheet_Merge, rega]
  (first | refine CallK.of (hcl) (by simp) ?_ | refine CallD.of (hcl) (by simp) ?_)
  simp -implicitDefEqProofs []
  unfold ccA at hcc
  generalize a ++ b = l at *
  (first | refine CallK.of (hcc) (by simp) ?_ | refine CallD.of (hcc) (by simp) ?_)
  simp -implicitDefEqProofs []
  refine AR_for (fM l) (fun _ => True) l.length (by simp only [fM]; (first | exact Weak.tm (by simp [lk]) | exact Weak.sub (by simp [lk, keptA, AV.keys]) (by simp [lk, keptO, keptA, AV.keys]))) trivial ?_ ?_
  · intro i hi _
    refine GO_AR mixed 1000 ?_
    have hx := hwx l[i] (List.getElem_mem hi)
    have tk := twR_succ hi
    have ln := twR_len (Nat.le_of_lt hi)
    have cp := copied_pc (G := R.G) l[i] hx.1 hx.2
    have ex : isa l[i] = [.int .i64 l[i].d, .int .i64 l[i].l, .int .u8 l[i].k, .vsl (l[i].its.map ita), .vsl (l[i].dms.map dma)] := rfl
    rw [ex] at cp
    cases i with
    | zero =>
      have w1 : IntKind.i64.wrap 1 = 1 := rfl
      have tk0 : twR l 1 = [[.int .i64 l[0].d, .int .i64 l[0].l, .int .u8 l[0].k, .vsl (l[0].its.map ita), .vsl (l[0].dms.map dma)]] := by rw [tk]; simp [twR]
      simp -implicitDefEqProofs [fM, hi, ex]
      (first | refine CallK.of (cp) (by simp) ?_ | refine CallD.of (cp) (by simp) ?_)
      simp -implicitDefEqProofs [w1, fM]
      refine ⟨rfl, ?_⟩
      exact Weak.sub (by simp [lk, keptA, AV.keys]) (by simp [lk, keptO, keptA, AV.keys, tk0])
    | succ i =>
      have w1 : IntKind.i64.wrap ((i : Int) + 1 + 1) = (i : Int) + 1 + 1 := wrapI (by omega) (by omega)
      have k1 : (i : Int) + 1 < l.length := by omega
      have k2 : ((i : Int) + 1).toNat = i + 1 := by omega
      have k3 : (0 : Int) ≤ (i : Int) + 1 := by omega
      have b2 : (i + 1 + 1) * 72 ≤ 70368744177664 := by omega
      simp -implicitDefEqProofs [fM, hi, k1, k2, k3, ex]
      (first | refine CallK.of (cp) (by simp) ?_ | refine CallD.of (cp) (by simp) ?_)
      simp -implicitDefEqProofs [w1, b2, ln]
      refine ⟨rfl, ?_⟩
      refine Weak.sub (by simp [lk, keptA, AV.keys]) ?_
      simp only [List.mem_cons, List.not_mem_nil, or_false, forall_eq_or_imp, forall_eq, twR_kept, and_true]
      simp [lk, keptO, keptA, AV.keys, tk]
  · intro _
    refine GO_AR mixed 1000 ?_
    obtain ⟨n, hn⟩ : ∃ n, l.length = n + 1 := ⟨l.length - 1, by omega⟩
    have e1 : twR l (n + 1) = l.map isa := by rw [← hn, twR_end]
    have k1 : ¬ (n : Int) + 1 < n + 1 := by omega
    rw [hn]
    rw [hn] at hsp
    simp -implicitDefEqProofs [fM, hn, k1, e1]
    refine GO_ret mixed 1000 ?_
    simp -implicitDefEqProofs []
    refine CallK.sem (CallSem.byref hsp (fun _ => 44) (by simp) (by simp) (by simp [St.get, lk, isa_ren]) (by simp [isa_kept]) (by simp [keptA, AV.keys, lk, fM1]) rfl (by simp [AV.ren, fM1]) rfl rfl) ?_
    simp -implicitDefEqProofs [setsB, isa_ren]
    have ls : (sortN l).length = n + 1 := by rw [sortN_len, hn]
    rw [ls] at hcp
    refine CallK.sem (CallSem.byref hcp (fun _ => 44) (by simp) (by simp) (by simp [St.get, lk, isa_ren]) (by simp [isa_kept]) (by simp [keptA, AV.keys, lk, fM2]) rfl (by simp [AV.ren, fM2]) rfl rfl) ?_
    have hcv : cmpV 1000 (sortN l) = if (mgL a b).length = n + 1 then .osl 1000 (n + 1) else .oss 1000 (n + 1) 0 (mgL a b).length := by rw [cmpV, hcm, ls]
    have hco : cmpO (sortN l) = (mgL a b).map isa ++ List.replicate (n + 1 - (mgL a b).length) zrI := by rw [cmpO, hcm, ls]
    rw [hcv, hco]
    generalize mgL a b = m at *
    by_cases hm : m.length = n + 1
    · have hr : List.replicate (n + 1 - m.length) zrI = [] := by rw [hm, Nat.sub_self]; rfl
      rw [if_pos hm, hr, List.append_nil]
      have pu := isa_pure m
      rw [rega] at hck
      simp -implicitDefEqProofs [setsB, isa_ren, AV.ren]
      refine CallK.flat hck (by simp [AV.flat]) (by simp [pu, hm]) ?_
      by_cases ko : openV m = 0
      · simp -implicitDefEqProofs [ko, pu, hm]
      · simp -implicitDefEqProofs [ko]
    · rw [if_neg hm]
      have hml : m.length ≤ n + 1 := by
        have := kN_len (sortN l) (sortN l).length
        rw [← hcm, ← ls]; exact this
      have hRl : (m.map isa ++ List.replicate (n + 1 - m.length) zrI).length = n + 1 := by simp; omega
      have hRt : (m.map isa ++ List.replicate (n + 1 - m.length) zrI).take m.length = m.map isa := by rw [List.take_left']; simp
      have hRn : AObj.ren (fun _ => 44) (.row 5 (m.map isa ++ List.replicate (n + 1 - m.length) zrI)) = .row 5 (m.map isa ++ List.replicate (n + 1 - m.length) zrI) := by
        have h := isa_ren (fun _ => 44) m
        simp only [AObj.ren, AObj.row.injEq, true_and] at h ⊢
        rw [List.map_append, h]
        simp [zrI, AV.ren]
      generalize m.map isa ++ List.replicate (n + 1 - m.length) zrI = RR at *
      have pu := isa_pure m
      rw [rega] at hck
      simp -implicitDefEqProofs [setsB, hRn, AV.ren]
      refine CallK.flat hck (by simp [AV.flat]) (by simp [pu, hRl, hRt, hml]) ?_
      by_cases ko : openV m = 0
      · simp -implicitDefEqProofs [ko, pu, hRl, hRt, hml]
      · simp -implicitDefEqProofs [ko]
end
end Go.Proofs.YtdpmioiamcgfkaaDoor

/-! The chapter's register, and what is told of it. -/
namespace Go.Proofs.YtdpmioiamcgfkaaDoor
open Go.RowKit

def regL : List Iss := [⟨10, 1, 1, [(20, 2), (30, 1)], []⟩, ⟨10, 2, 1, [(20, 1), (30, 2), (40, 2)], []⟩, ⟨20, 1, 1, [(30, 3), (50, 1)], []⟩,
  ⟨30, 1, 2, [], [⟨150, 100, 200⟩]⟩, ⟨30, 2, 2, [], [⟨150, 120, 200⟩]⟩, ⟨40, 1, 2, [], []⟩, ⟨50, 1, 3, [], []⟩]

theorem reg_nums : nums regL = [10, 20, 30, 40, 50] := by decide
theorem reg_open : openV regL = 0 := by decide +kernel
theorem reg_expl : exV regL [1, 1, 1, 1, 1] 10 = ([(30, 7), (50, 2)], 0) := by decide +kernel
theorem reg_uses : useE regL 30 = ([(10, 1), (10, 2), (20, 1)], 0) := by decide +kernel
theorem reg_above : abE regL [2, 1, 1, 1, 1] 40 = ([10], 0) := by decide +kernel
theorem reg_differ : difE regL 10 1 2 = ([⟨20, 2, 1⟩, ⟨30, 1, 2⟩, ⟨40, 0, 2⟩], [], 0) := by decide +kernel
theorem reg_last : cntV regL 30 = 2 := by decide +kernel
theorem reg_depth : dpG (dRun regL (nums regL).length).1 10 = 3 := by decide +kernel
theorem reg_wf : Wf regL := by
  refine ⟨⟨by unfold Sml; decide, ?_⟩, by decide⟩
  unfold Sml; decide
theorem reg_tree : trE regL [1, 1, 2, 1, 1] 10 = ([⟨0, 10, 1, 1⟩, ⟨1, 20, 1, 2⟩, ⟨2, 30, 2, 3⟩, ⟨2, 50, 1, 1⟩, ⟨1, 30, 2, 1⟩], 0) := by decide +kernel
def regD : List Iss := [⟨10, 1, 1, [(20, 2), (30, 1)], []⟩, ⟨10, 1, 1, [(20, 2), (30, 1)], []⟩, ⟨10, 2, 1, [(20, 1), (30, 2), (40, 2)], []⟩, ⟨10, 2, 1, [(20, 1), (30, 2), (40, 2)], []⟩, ⟨20, 1, 1, [(30, 3), (50, 1)], []⟩, ⟨20, 1, 1, [(30, 3), (50, 1)], []⟩,
  ⟨30, 1, 2, [], [⟨150, 100, 200⟩]⟩, ⟨30, 1, 2, [], [⟨150, 100, 200⟩]⟩, ⟨30, 2, 2, [], [⟨150, 120, 200⟩]⟩, ⟨30, 2, 2, [], [⟨150, 120, 200⟩]⟩, ⟨40, 1, 2, [], []⟩, ⟨40, 1, 2, [], []⟩, ⟨50, 1, 3, [], []⟩, ⟨50, 1, 3, [], []⟩]
theorem reg_clash : clN regL regL regL.length = [] := by decide +kernel
theorem reg_sort : sortN (regL ++ regL) = regD := by
  have hL := open_listed reg_open
  refine sortN_eq (mg_inj hL hL reg_clash) (by decide +kernel) ?_
  unfold SrtN
  decide +kernel
theorem reg_merge : mgE regL regL = (regL, 0) := by
  have e : mgL regL regL = regL := by
    rw [mgL, reg_sort]
    decide +kernel
  simp [mgE, bothE, reg_open, reg_clash, e]
theorem reg_at : findN 30 2 regL = some ⟨30, 2, 2, [], [⟨150, 120, 200⟩]⟩ := by decide +kernel

section
variable {G : Nat → Option (List AV)}

theorem itemL_pc (d c : Int) : PC Tryd.prog G 58 [.int .i64 d, .int .i64 c] (.agg [.int .i64 d, .int .i64 c]) := by
  (refine pc_law02_item (Nat.le_of_ble_eq_true rfl) fun R hG hrd => GO_AR mixed 1000 ?_; subst hG)
  simp -implicitDefEqProofs [rc_law02_item, rr_law02_item]
theorem assembly_pc (d l : Int) (its : List (Int × Int)) : PC Tryd.prog G 99 [.int .i64 d, .int .i64 l, .vsl (its.map ita)] (.agg (isa ⟨d, l, 1, its, []⟩)) := by
  refine PC.nzR (v := .agg [.int .i64 d, .int .i64 l, .int .u8 1, .vsl (its.map ita), .nils]) ?_ (by simp [nz, isa])
  (refine pc_law02_assembly (Nat.le_of_ble_eq_true rfl) fun R hG hrd => GO_AR mixed 1000 ?_; subst hG)
  simp -implicitDefEqProofs [rc_law02_assembly, rr_law02_assembly]
theorem part_pc (d l k : Int) (dms : List Dm) : PC Tryd.prog G 100 [.int .i64 d, .int .i64 l, .int .u8 k, .vsl (dms.map dma)] (.agg (isa ⟨d, l, k, [], dms⟩)) := by
  refine PC.nzR (v := .agg [.int .i64 d, .int .i64 l, .int .u8 k, .nils, .vsl (dms.map dma)]) ?_ (by simp [nz, isa])
  (refine pc_law02_part (Nat.le_of_ble_eq_true rfl) fun R hG hrd => GO_AR mixed 1000 ?_; subst hG)
  simp -implicitDefEqProofs [rc_law02_part, rr_law02_part]
theorem part0_pc (d l k : Int) : PC Tryd.prog G 100 [.int .i64 d, .int .i64 l, .int .u8 k, .nils] (.agg (isa ⟨d, l, k, [], []⟩)) := by
  refine PC.nzR (v := .agg [.int .i64 d, .int .i64 l, .int .u8 k, .nils, .nils]) ?_ (by simp [nz, isa])
  (refine pc_law02_part (Nat.le_of_ble_eq_true rfl) fun R hG hrd => GO_AR mixed 1000 ?_; subst hG)
  simp -implicitDefEqProofs [rc_law02_part, rr_law02_part]
theorem first_pc : PC Tryd.prog G 65 [] (.vsl (([1, 1, 1, 1, 1] : List Int).map ia)) := by
  (refine pc_law02_first (Nat.le_of_ble_eq_true rfl) fun R hG hrd => GO_AR mixed 1000 ?_; subst hG)
  simp -implicitDefEqProofs [rc_law02_first, rr_law02_first, ia]
  rfl
theorem second_pc : PC Tryd.prog G 64 [] (.vsl (([2, 1, 1, 1, 1] : List Int).map ia)) := by
  (refine pc_law02_second (Nat.le_of_ble_eq_true rfl) fun R hG hrd => GO_AR mixed 1000 ?_; subst hG)
  simp -implicitDefEqProofs [rc_law02_second, rr_law02_second, ia]
  rfl
theorem register_pc : PC Tryd.prog G 63 [] (rega regL) := by
  (refine pc_law02_register (Nat.le_of_ble_eq_true rfl) fun R hG hrd => GO_AR mixed 1000 ?_; subst hG)
  simp -implicitDefEqProofs [rc_law02_register, rr_law02_register]
  (first | refine CallK.of (itemL_pc 20 2) (by simp) ?_ | refine CallD.of (itemL_pc 20 2) (by simp) ?_)
  simp -implicitDefEqProofs []
  (first | refine CallK.of (itemL_pc 30 1) (by simp) ?_ | refine CallD.of (itemL_pc 30 1) (by simp) ?_)
  simp -implicitDefEqProofs []
  (first | refine CallK.of (assembly_pc 10 1 [(20, 2), (30, 1)]) (by simp) ?_ | refine CallD.of (assembly_pc 10 1 [(20, 2), (30, 1)]) (by simp) ?_)
  simp -implicitDefEqProofs [isa]
  (first | refine CallK.of (itemL_pc 20 1) (by simp) ?_ | refine CallD.of (itemL_pc 20 1) (by simp) ?_)
  simp -implicitDefEqProofs []
  (first | refine CallK.of (itemL_pc 30 2) (by simp) ?_ | refine CallD.of (itemL_pc 30 2) (by simp) ?_)
  simp -implicitDefEqProofs []
  (first | refine CallK.of (itemL_pc 40 2) (by simp) ?_ | refine CallD.of (itemL_pc 40 2) (by simp) ?_)
  simp -implicitDefEqProofs []
  (first | refine CallK.of (assembly_pc 10 2 [(20, 1), (30, 2), (40, 2)]) (by simp) ?_ | refine CallD.of (assembly_pc 10 2 [(20, 1), (30, 2), (40, 2)]) (by simp) ?_)
  simp -implicitDefEqProofs [isa]
  (first | refine CallK.of (itemL_pc 30 3) (by simp) ?_ | refine CallD.of (itemL_pc 30 3) (by simp) ?_)
  simp -implicitDefEqProofs []
  (first | refine CallK.of (itemL_pc 50 1) (by simp) ?_ | refine CallD.of (itemL_pc 50 1) (by simp) ?_)
  simp -implicitDefEqProofs []
  (first | refine CallK.of (assembly_pc 20 1 [(30, 3), (50, 1)]) (by simp) ?_ | refine CallD.of (assembly_pc 20 1 [(30, 3), (50, 1)]) (by simp) ?_)
  simp -implicitDefEqProofs [isa]
  (first | refine CallK.of (part_pc 30 1 2 [⟨150, 100, 200⟩]) (by simp) ?_ | refine CallD.of (part_pc 30 1 2 [⟨150, 100, 200⟩]) (by simp) ?_)
  simp -implicitDefEqProofs [isa]
  (first | refine CallK.of (part_pc 30 2 2 [⟨150, 120, 200⟩]) (by simp) ?_ | refine CallD.of (part_pc 30 2 2 [⟨150, 120, 200⟩]) (by simp) ?_)
  simp -implicitDefEqProofs [isa]
  (first | refine CallK.of (part0_pc 40 1 2) (by simp) ?_ | refine CallD.of (part0_pc 40 1 2) (by simp) ?_)
  simp -implicitDefEqProofs [isa]
  (first | refine CallK.of (part0_pc 50 1 3) (by simp) ?_ | refine CallD.of (part0_pc 50 1 3) (by simp) ?_)
  simp -implicitDefEqProofs [isa, rega, regL, ita, dma]
  rfl
end
end Go.Proofs.YtdpmioiamcgfkaaDoor

/-! At as a tree; the chapter's examples. -/
namespace Go.Proofs.YtdpmioiamcgfkaaDoor
open Go.RowKit
section
variable {G : Nat → Option (List AV)}

theorem at_pc (hG : GC G) (r : List Iss) (d l : Int) (h : Wf r) : PC Tryd.prog G 27 [rega r, .agg [.int .i64 d, .int .i64 l]] (.tup [.agg (isa (atP r d l).1), .int .i64 (atP r d l).2]) := by
  by_cases e : openV r = 0
  case neg =>
    refine PC.nzR (v := .tup [.agg [.int .i64 0, .int .i64 0, .int .u8 0, .nils, .nils], .int .i64 (openV r)]) ?_ (by simp [nz, atP, e, zI, isa])
    (refine pc_sheet_At (Nat.le_of_ble_eq_true rfl) fun R hG hrd => GO_AR mixed 1000 ?_; subst hG)
    simp -implicitDefEqProofs [rc_sheet_At, rr_sheet_At, rega]
    (first | refine CallK.of (open_pc hG r h) (by simp) ?_ | refine CallD.of (open_pc hG r h) (by simp) ?_)
    simp -implicitDefEqProofs [openA, e]
  have hL := open_listed e
  have hO := ord_of hL
  cases hf : findN d l r with
  | none =>
    refine PC.nzR (v := .tup [.agg [.int .i64 0, .int .i64 0, .int .u8 0, .nils, .nils], .int .i64 6]) ?_ (by simp [nz, atP, e, hf, zI, isa])
    (refine pc_sheet_At (Nat.le_of_ble_eq_true rfl) fun R hG hrd => GO_AR mixed 1000 ?_; subst hG)
    simp -implicitDefEqProofs [rc_sheet_At, rr_sheet_At, rega]
    (first | refine CallK.of (open_pc hG r h) (by simp) ?_ | refine CallD.of (open_pc hG r h) (by simp) ?_)
    simp -implicitDefEqProofs [openA, e]
    (first | refine CallK.of (find_pcS r (nums r) d l (ord_map hO) h.1.1 (find_own hL)) (by simp) ?_ | refine CallD.of (find_pcS r (nums r) d l (ord_map hO) h.1.1 (find_own hL)) (by simp) ?_)
    simp -implicitDefEqProofs [hf, fndA, noIs]
  | some x =>
    have ev : atP r d l = (x, 0) := by simp [atP, e, hf]
    have hx := h.1.2 x (findN_mem hf).1
    have ex : isa x = [.int .i64 x.d, .int .i64 x.l, .int .u8 x.k, .vsl (x.its.map ita), .vsl (x.dms.map dma)] := rfl
    have cp := copied_pc (G := G) x hx.1 hx.2
    rw [ev]
    rw [ex] at cp
    (refine pc_sheet_At (Nat.le_of_ble_eq_true rfl) fun R hG hrd => GO_AR mixed 1000 ?_; subst hG)
    simp -implicitDefEqProofs [rc_sheet_At, rr_sheet_At, rega]
    (first | refine CallK.of (open_pc hG r h) (by simp) ?_ | refine CallD.of (open_pc hG r h) (by simp) ?_)
    simp -implicitDefEqProofs [openA, e]
    (first | refine CallK.of (find_pcS r (nums r) d l (ord_map hO) h.1.1 (find_own hL)) (by simp) ?_ | refine CallD.of (find_pcS r (nums r) d l (ord_map hO) h.1.1 (find_own hL)) (by simp) ?_)
    simp -implicitDefEqProofs [hf, fndA, ex]
    (first | refine CallK.of (cp) (by simp) ?_ | refine CallD.of (cp) (by simp) ?_)
    simp -implicitDefEqProofs [ex]

attribute [local simp] rega_pure
set_option maxRecDepth 100000 in
set_option maxHeartbeats 4000000 in
theorem alive_pc (hG : GC G) : PC Tryd.prog G 51 [] (.bool true) := by
  have hM := merge_few_pc hG regL regL reg_wf reg_wf (fun _ => by decide)
  rw [reg_merge] at hM
  have hA := at_pc hG regL 30 2 reg_wf
  have eA : atP regL 30 2 = (⟨30, 2, 2, [], [⟨150, 120, 200⟩]⟩, 0) := by simp [atP, reg_open, reg_at]
  rw [eA] at hA
  have k10 : knV regL 10 = 0 := by decide +kernel
  have k30 : knV regL 30 = 0 := by decide +kernel
  have hD := drawP_pc hG regL reg_wf
  rw [reg_open, if_pos rfl, reg_nums] at hD
  have hE := explP_pc hG regL [1, 1, 1, 1, 1] 10 reg_wf
  rw [reg_expl] at hE
  have hT := treeP_pc hG regL [1, 1, 2, 1, 1] 10 reg_wf
  rw [reg_tree] at hT
  have hU := usesP_pc hG regL 30 reg_wf
  rw [reg_uses] at hU
  have hB := aboveP_pc hG regL [2, 1, 1, 1, 1] 40 reg_wf
  rw [reg_above] at hB
  have hF := differP_pc hG regL 10 1 2 reg_wf
  rw [reg_differ] at hF
  have hP := depthP_pc hG regL 10 reg_wf
  rw [k10, if_pos rfl, reg_depth] at hP
  have hL := lastP_pc hG regL 30 reg_wf
  rw [k30, if_pos rfl, reg_last] at hL
  have r5 : List.range 5 = [0, 1, 2, 3, 4] := rfl
  have hR := register_pc (G := G)
  have hR1 := first_pc (G := G)
  have hR2 := second_pc (G := G)
  simp only [List.map_cons, List.map_nil, ia, ita, bra, dma] at hD hE hT hU hB hF hR1 hR2
  (refine pc_law02_alive (Nat.le_of_ble_eq_true rfl) fun R hG hrd => GO_AR mixed 1000 ?_; subst hG)
  simp -implicitDefEqProofs [rc_law02_alive, rr_law02_alive]
  (first | refine CallK.of (hR) (by simp) ?_ | refine CallD.of (hR) (by simp) ?_)
  simp -implicitDefEqProofs []
  (first | refine CallK.of (hD) (by simp) ?_ | refine CallD.of (hD) (by simp) ?_)
  simp -implicitDefEqProofs []
  (first | refine CallK.of (hR) (by simp) ?_ | refine CallD.of (hR) (by simp) ?_)
  simp -implicitDefEqProofs []
  (first | refine CallK.of (hR1) (by simp) ?_ | refine CallD.of (hR1) (by simp) ?_)
  simp -implicitDefEqProofs []
  (first | refine CallK.of (hE) (by simp) ?_ | refine CallD.of (hE) (by simp) ?_)
  simp -implicitDefEqProofs []
  (first | refine CallK.of (hR) (by simp) ?_ | refine CallD.of (hR) (by simp) ?_)
  simp -implicitDefEqProofs [r5]
  (first | refine CallK.of (hT) (by simp) ?_ | refine CallD.of (hT) (by simp) ?_)
  simp -implicitDefEqProofs []
  (first | refine CallK.of (hR) (by simp) ?_ | refine CallD.of (hR) (by simp) ?_)
  simp -implicitDefEqProofs []
  (first | refine CallK.of (hU) (by simp) ?_ | refine CallD.of (hU) (by simp) ?_)
  simp -implicitDefEqProofs []
  (first | refine CallK.of (hR) (by simp) ?_ | refine CallD.of (hR) (by simp) ?_)
  simp -implicitDefEqProofs []
  (first | refine CallK.of (hR2) (by simp) ?_ | refine CallD.of (hR2) (by simp) ?_)
  simp -implicitDefEqProofs []
  (first | refine CallK.of (hB) (by simp) ?_ | refine CallD.of (hB) (by simp) ?_)
  simp -implicitDefEqProofs []
  (first | refine CallK.of (hR) (by simp) ?_ | refine CallD.of (hR) (by simp) ?_)
  simp -implicitDefEqProofs []
  (first | refine CallK.of (hF) (by simp) ?_ | refine CallD.of (hF) (by simp) ?_)
  simp -implicitDefEqProofs []
  (first | refine CallK.of (hR) (by simp) ?_ | refine CallD.of (hR) (by simp) ?_)
  simp -implicitDefEqProofs []
  (first | refine CallK.of (hP) (by simp) ?_ | refine CallD.of (hP) (by simp) ?_)
  simp -implicitDefEqProofs []
  (first | refine CallK.of (hR) (by simp) ?_ | refine CallD.of (hR) (by simp) ?_)
  simp -implicitDefEqProofs []
  (first | refine CallK.of (hL) (by simp) ?_ | refine CallD.of (hL) (by simp) ?_)
  simp -implicitDefEqProofs []
  (first | refine CallK.of (hR) (by simp) ?_ | refine CallD.of (hR) (by simp) ?_)
  simp -implicitDefEqProofs []
  (first | refine CallK.of (hA) (by simp) ?_ | refine CallD.of (hA) (by simp) ?_)
  simp -implicitDefEqProofs [isa, dma]
  (first | refine CallK.of (hR) (by simp) ?_ | refine CallD.of (hR) (by simp) ?_)
  simp -implicitDefEqProofs []
  (first | refine CallK.of (hR) (by simp) ?_ | refine CallD.of (hR) (by simp) ?_)
  simp -implicitDefEqProofs []
  simp only [rega] at hM
  (first | refine CallK.of (hM) (by simp) ?_ | refine CallD.of (hM) (by simp) ?_)
  have hI := sameInts_pc (G := R.G) [10, 20, 30, 40, 50] [10, 20, 30, 40, 50] (by unfold Sml; decide)
  have hI1 := sameInts_pc (G := R.G) [10] [10] (by unfold Sml; decide)
  have hIt := sameItems_pc (G := R.G) [(30, 7), (50, 2)] [(30, 7), (50, 2)] (by unfold Sml; decide)
  have hBr := sameBr_pc (G := R.G) [⟨0, 10, 1, 1⟩, ⟨1, 20, 1, 2⟩, ⟨2, 30, 2, 3⟩, ⟨2, 50, 1, 1⟩, ⟨1, 30, 2, 1⟩] [⟨0, 10, 1, 1⟩, ⟨1, 20, 1, 2⟩, ⟨2, 30, 2, 3⟩, ⟨2, 50, 1, 1⟩, ⟨1, 30, 2, 1⟩] (by unfold Sml; decide)
  have hRf := sameRefs_pc (G := R.G) [(10, 1), (10, 2), (20, 1)] [(10, 1), (10, 2), (20, 1)] (by unfold Sml; decide)
  have hCh := sameChg_pc (G := R.G) [⟨20, 2, 1⟩, ⟨30, 1, 2⟩, ⟨40, 0, 2⟩] [⟨20, 2, 1⟩, ⟨30, 1, 2⟩, ⟨40, 0, 2⟩] (by unfold Sml; decide)
  have hSi := sameIssue_pc (G := R.G) ⟨30, 2, 2, [], [⟨150, 120, 200⟩]⟩ ⟨30, 2, 2, [], [⟨150, 120, 200⟩]⟩ (by unfold Sml; decide) (by unfold Sml; decide)
  have hSm := same_pc (G := R.G) regL regL reg_wf.1
  rw [decide_eq_true rfl] at hI hI1 hIt hBr hRf hCh hSi hSm
  simp only [List.map_cons, List.map_nil, ia, ita, bra, dma, isa] at hI hI1 hIt hBr hRf hCh hSi
  simp -implicitDefEqProofs [r5]
  (first | refine CallK.of (hI) (by simp) ?_ | refine CallD.of (hI) (by simp) ?_)
  simp -implicitDefEqProofs []
  (first | refine CallK.of (itemL_pc 30 7) (by simp) ?_ | refine CallD.of (itemL_pc 30 7) (by simp) ?_)
  simp -implicitDefEqProofs []
  (first | refine CallK.of (itemL_pc 50 2) (by simp) ?_ | refine CallD.of (itemL_pc 50 2) (by simp) ?_)
  simp -implicitDefEqProofs []
  (first | refine CallK.of (hIt) (by simp) ?_ | refine CallD.of (hIt) (by simp) ?_)
  simp -implicitDefEqProofs []
  (first | refine CallK.of (hBr) (by simp) ?_ | refine CallD.of (hBr) (by simp) ?_)
  simp -implicitDefEqProofs []
  (first | refine CallK.of (hRf) (by simp) ?_ | refine CallD.of (hRf) (by simp) ?_)
  simp -implicitDefEqProofs []
  (first | refine CallK.of (hI1) (by simp) ?_ | refine CallD.of (hI1) (by simp) ?_)
  simp -implicitDefEqProofs []
  (first | refine CallK.of (hCh) (by simp) ?_ | refine CallD.of (hCh) (by simp) ?_)
  simp -implicitDefEqProofs []
  (first | refine CallK.of (hR) (by simp) ?_ | refine CallD.of (hR) (by simp) ?_)
  have e0 : rega regL = .agg [.vsl (regL.map isa)] := rfl
  have gl : regL.length = 7 := rfl
  have g4 : regL[4]? = some ⟨30, 2, 2, [], [⟨150, 120, 200⟩]⟩ := rfl
  have g4' : ∀ h : 4 < regL.length, regL[4]'h = ⟨30, 2, 2, [], [⟨150, 120, 200⟩]⟩ := fun _ => rfl
  simp -implicitDefEqProofs [e0, gl, g4, g4', isa, dma]
  (first | refine CallK.of (hSi) (by simp) ?_ | refine CallD.of (hSi) (by simp) ?_)
  simp -implicitDefEqProofs []
  (first | refine CallK.of (hR) (by simp) ?_ | refine CallD.of (hR) (by simp) ?_)
  rw [e0] at hSm ⊢
  simp -implicitDefEqProofs []
  refine CallD.of hSm (by simp [AV.pure, isa]) ?_
  simp -implicitDefEqProofs []
  exact rfl
end
end Go.Proofs.YtdpmioiamcgfkaaDoor

/-! Lists of numbers that came in. -/
namespace Go.Proofs.YtdpmioiamcgfkaaDoor
open Go.RowKit

end Go.Proofs.YtdpmioiamcgfkaaDoor

/-! What the outright laws choose: letters, drawings. -/
namespace Go.Proofs.YtdpmioiamcgfkaaDoor
open Go.RowKit

def ua (n : Int) : List AV := [.int .u32 n]
theorem bounds_u32 {n : Int} (h : (Lit.int .u32 n).wf = true) : 0 ≤ n ∧ n ≤ 4294967295 := by
  simp [Lit.wf, IntKind.min, IntKind.max, IntKind.signed, IntKind.bits] at h
  omega
theorem u32_inv {xs : List AV} (h : TVs [.int .u32] xs) : ∃ n : Int, xs = ua n ∧ (0 ≤ n ∧ n ≤ 4294967295) := by
  obtain ⟨x0, _, rfl, h0, h⟩ := h.cons_inv
  obtain rfl := h.nil_inv
  obtain ⟨n, rfl, hb⟩ := h0.int_inv
  exact ⟨n, rfl, bounds_u32 hb⟩
def chV (b : List Int) (i : Nat) : Int := if b = [] then 0 else b.getD (i % b.length) 0
def Ubs (b : List Int) : Prop := ∀ n ∈ b, 0 ≤ n ∧ n ≤ 4294967295
theorem chV_bd {b : List Int} (h : Ubs b) (i : Nat) : 0 ≤ chV b i ∧ chV b i ≤ 4294967295 := by
  unfold chV
  split
  · omega
  · rename_i hne
    have hl : 0 < b.length := List.length_pos_iff.2 hne
    have hi : i % b.length < b.length := Nat.mod_lt _ hl
    have e : b.getD (i % b.length) 0 = b[i % b.length] := by simp [List.getD_eq_getElem?_getD, hi]
    rw [e]; exact h _ (List.getElem_mem hi)
def lsE (r : List Iss) (b : List Int) (j : Nat) : Int := 1 + (chV b j).tmod (lastV r ((nums r).getD j 0))
def lsV (r : List Iss) (b : List Int) (i : Nat) : List Int := (List.range i).map (lsE r b)
theorem lsV_succ (r : List Iss) (b : List Int) (i : Nat) : lsV r b (i + 1) = lsV r b i ++ [lsE r b i] := by rw [lsV, List.range_succ, List.map_append]; rfl
theorem lsV_len (r : List Iss) (b : List Int) (i : Nat) : (lsV r b i).length = i := by simp [lsV]
theorem last_bd {r : List Iss} (hL : listedB r = true) {n : Int} (hn : n ∈ nums r) : 1 ≤ lastV r n ∧ lastV r n ≤ 8 := by
  obtain ⟨i, hi, e⟩ := nums_of (ord_of hL) hn
  have hm := List.getElem_mem hi
  have hf := find_mem hL hm
  have h1 : inR r[i].l 1 (lastV r n) = true := (find_iff hL n r[i].l).1 (by rw [← e, hf]; rfl)
  have h2 := of_decide_eq_true h1
  refine ⟨by omega, ?_⟩
  have h3 : (findN n (lastV r n) r).isSome = true := (find_iff hL n (lastV r n)).2 (decide_eq_true (by omega))
  obtain ⟨x, hx⟩ := Option.isSome_iff_exists.1 h3
  have h4 := findN_mem hx
  have h5 := listed_okN hL x h4.1
  have := h5.2.2.2
  omega
theorem tmod_bd {a b : Int} (h0 : 0 ≤ a) (h1 : 1 ≤ b) : 0 ≤ a.tmod b ∧ a.tmod b < b := ⟨Int.tmod_nonneg b h0, Int.tmod_lt_of_pos a (by omega)⟩
theorem lsV_ok {r : List Iss} (hL : listedB r = true) {b : List Int} (hb : Ubs b) : ltB r (lsV r b (nums r).length) = true := by
  simp only [ltB, Bool.and_eq_true, decide_eq_true_eq, lsV_len, true_and]
  rw [range_all]
  intro j hj
  have e : (lsV r b (nums r).length).getD j 0 = lsE r b j := by simp [lsV, List.getD_eq_getElem?_getD, hj]
  rw [e]
  have hn : (nums r).getD j 0 ∈ nums r := by
    have : (nums r).getD j 0 = (nums r)[j] := by simp [List.getD_eq_getElem?_getD, hj]
    rw [this]; exact List.getElem_mem hj
  have h1 := last_bd hL hn
  have h2 := tmod_bd (chV_bd hb j).1 h1.1
  unfold lsE
  exact decide_eq_true (by omega)
def readyB (r : List Iss) : Bool := !greatB r && decide (chkV r = 0)
theorem ready_ok {r : List Iss} (h : readyB r = true) (hk : ∀ x ∈ r, KOk x) : Wf r ∧ openV r = 0 := by
  simp only [readyB, Bool.and_eq_true, Bool.not_eq_true', decide_eq_true_eq] at h
  exact ⟨great_wf h.1 hk, by rw [open_chk]; exact h.2⟩
theorem nums_ne {r : List Iss} (hL : listedB r = true) : nums r ≠ [] := by
  have h := listed_60 hL
  have := nums_mem (ord_of hL) (show 0 < r.length by omega)
  intro e; rw [e] at this; cases this
/-- The drawing of a number. -/
def drV (r : List Iss) (n : Int) : Int := (nums r).getD (n.tmod (nums r).length).toNat 0
theorem drV_mem {r : List Iss} (hL : listedB r = true) {n : Int} (h0 : 0 ≤ n) : drV r n ∈ nums r := by
  have hl : 0 < (nums r).length := List.length_pos_iff.2 (nums_ne hL)
  have h1 := tmod_bd (b := (nums r).length) h0 (by omega)
  have hi : (n.tmod (nums r).length).toNat < (nums r).length := by omega
  rw [drV, List.getD_eq_getElem?_getD, List.getElem?_eq_getElem hi]
  exact List.getElem_mem hi
def lsS (r : List Iss) (b : List Int) : Nat → St
  | 0 => ⟨[(11, .int .i64 0), (10, .int .i64 (nums r).length), (9, .vsl ((nums r).map ia)), (5, .nils), (1, .vsl (b.map ua)), (2, .ptr 2 0)], [(2, .box [.vsl (r.map isa)])]⟩
  | i + 1 => ⟨[(11, .int .i64 (i + 1 : Nat)), (10, .int .i64 (nums r).length), (9, .vsl ((nums r).map ia)), (5, .osl 26 (i + 1)), (1, .vsl (b.map ua)), (2, .ptr 2 0)], [(2, .box [.vsl (r.map isa)]), (26, .row 1 ((lsV r b (i + 1)).map ia))]⟩

section
variable {G : Nat → Option (List AV)}

theorem ready_pc (r : List Iss) (hk : ∀ x ∈ r, KOk x) : PC Tryd.prog G 52 [rega r] (.bool (readyB r)) := by
  have hg := greatA_pc (G := G) r
  have hc := fun h => checkR_pc (G := G) r (great_wf h hk)
  rw [rega] at hg hc
  (refine pc_law02_ready (Nat.le_of_ble_eq_true rfl) fun R hG hrd => GO_AR mixed 1000 ?_; subst hG)
  simp -implicitDefEqProofs [rc_law02_ready, rr_law02_ready, rega]
  (first | refine CallK.of (hg) (by simp) ?_ | refine CallD.of (hg) (by simp) ?_)
  cases g : greatB r
  · simp -implicitDefEqProofs []
    (first | refine CallK.of (hc g) (by simp) ?_ | refine CallD.of (hc g) (by simp) ?_)
    simp -implicitDefEqProofs [readyB, g]
  · simp -implicitDefEqProofs [readyB, g]

theorem choose_pc (b : List Int) (i : Nat) (hb : Ubs b) (hi : i ≤ 1000) : PC Tryd.prog G 97 [.vsl (b.map ua), .int .i64 i] (.int .i64 (chV b i)) := by
  (refine pc_law02_choose (Nat.le_of_ble_eq_true rfl) fun R hG hrd => GO_AR mixed 1000 ?_; subst hG)
  by_cases e : b = []
  · simp -implicitDefEqProofs [rc_law02_choose, rr_law02_choose, e, chV]
  · have hl : 0 < b.length := List.length_pos_iff.2 e
    have k0 : ¬ (b.length : Int) = 0 := by omega
    have k0' : ¬ b.length = 0 := by omega
    have eq : (i : Int).tmod (b.length : Int) = ((i % b.length : Nat) : Int) := by rw [Int.tmod_eq_emod_of_nonneg (by omega)]; rfl
    have em : ((i : Int).tmod (b.length : Int)).toNat = i % b.length := by rw [eq]; rfl
    have em0 : 0 ≤ (i : Int).tmod (b.length : Int) := by rw [eq]; omega
    have hm : i % b.length < b.length := Nat.mod_lt _ hl
    have hx := hb b[i % b.length] (List.getElem_mem hm)
    have w1 : IntKind.i64.wrap b[i % b.length] = b[i % b.length] := wrapI (by omega) (by omega)
    have ev : chV b i = b[i % b.length] := by rw [chV, if_neg e]; simp [List.getD_eq_getElem?_getD, hm]
    simp -implicitDefEqProofs [rc_law02_choose, rr_law02_choose, k0, k0', em, em0, hm, ua, w1, ev]

theorem drawing_pc (r : List Iss) (n : Int) (h : Wf r) (hL : listedB r = true) (h0 : 0 ≤ n) (h1 : n ≤ 255) : PC Tryd.prog G 54 [rega r, .int .u8 n] (.int .i64 (drV r n)) := by
  have hne : r ≠ [] := by rintro rfl; have := listed_60 hL; simp at this
  have hl : 0 < (nums r).length := List.length_pos_iff.2 (nums_ne hL)
  have hn := numbers_pc (G := G) r h.1.1 hne
  rw [rega] at hn
  have b1 := tmod_bd (b := (nums r).length) h0 (by omega)
  have hi : (n.tmod (nums r).length).toNat < (nums r).length := by omega
  have k0 : ¬ ((nums r).length : Int) = 0 := by omega
  have k0' : ¬ (nums r).length = 0 := by omega
  have w1 : IntKind.i64.wrap n = n := wrapI (by omega) (by omega)
  have ev : drV r n = (nums r)[(n.tmod (nums r).length).toNat] := by rw [drV, List.getD_eq_getElem?_getD, List.getElem?_eq_getElem hi]; rfl
  (refine pc_law02_drawing (Nat.le_of_ble_eq_true rfl) fun R hG hrd => GO_AR mixed 1000 ?_; subst hG)
  simp -implicitDefEqProofs [rc_law02_drawing, rr_law02_drawing, rega]
  (first | refine CallK.of (hn) (by simp) ?_ | refine CallD.of (hn) (by simp) ?_)
  simp -implicitDefEqProofs [w1, k0, k0', b1.1, hi, ia, ev]

theorem lettersL_pc (r : List Iss) (b : List Int) (h : Wf r) (hL : listedB r = true) (hb : Ubs b) : PC Tryd.prog G 53 [rega r, .vsl (b.map ua)] (.vsl ((lsV r b (nums r).length).map ia)) := by
  have hne : r ≠ [] := by rintro rfl; have := listed_60 hL; simp at this
  have hl : 0 < (nums r).length := List.length_pos_iff.2 (nums_ne hL)
  have hl2 := listed_20 hL
  have hn := numbers_pc (G := G) r h.1.1 hne
  rw [rega] at hn
  (refine pc_law02_letters (Nat.le_of_ble_eq_true rfl) fun R hG hrd => GO_AR mixed 1000 ?_; subst hG)
  simp -implicitDefEqProofs [rc_law02_letters, rr_law02_letters, rega]
  (first | refine CallK.of (hn) (by simp) ?_ | refine CallD.of (hn) (by simp) ?_)
  simp -implicitDefEqProofs []
  refine AR_for (lsS r b) (fun _ => True) (nums r).length (by simp only [lsS]; (first | exact Weak.tm (by simp [lk]) | exact Weak.sub (by simp [lk, keptA, AV.keys]) (by simp [lk, keptO, keptA, AV.keys]))) trivial ?_ ?_
  · intro i hi _
    refine GO_AR mixed 1000 ?_
    have hm := List.getElem_mem hi
    have lb := last_bd hL hm
    have cb := chV_bd hb i
    have lo := lastOf_pc (G := R.G) r (nums r)[i] h.1.1
    rw [rega] at lo
    have k0 : ¬ lastV r (nums r)[i] = 0 := by omega
    have tb := tmod_bd cb.1 lb.1
    have w2 : IntKind.i64.wrap (1 + (chV b i).tmod (lastV r (nums r)[i])) = 1 + (chV b i).tmod (lastV r (nums r)[i]) := wrapI (by omega) (by omega)
    have ee : lsE r b i = 1 + (chV b i).tmod (lastV r (nums r)[i]) := by rw [lsE]; simp [List.getD_eq_getElem?_getD, hi]
    have sc := lsV_succ r b i
    rw [ee] at sc
    have ln := lsV_len r b i
    cases i with
    | zero =>
      have w1 : IntKind.i64.wrap 1 = 1 := rfl
      have sc0 : lsV r b 1 = [1 + (chV b 0).tmod (lastV r (nums r)[0])] := by rw [sc]; rfl
      simp -implicitDefEqProofs [lsS, hi, ia]
      (first | refine CallK.of (choose_pc b 0 hb (by omega)) (by simp) ?_ | refine CallD.of (choose_pc b 0 hb (by omega)) (by simp) ?_)
      simp -implicitDefEqProofs []
      (first | refine CallK.of (lo) (by simp) ?_ | refine CallD.of (lo) (by simp) ?_)
      simp -implicitDefEqProofs [k0, w2, w1]
      refine ⟨rfl, ?_⟩
      exact Weak.sub (by simp [lsS, lk, keptA, AV.keys]) (by simp [lsS, lk, keptO, keptA, AV.keys, sc0, ia])
    | succ i =>
      have w1 : IntKind.i64.wrap ((i : Int) + 1 + 1) = (i : Int) + 1 + 1 := wrapI (by omega) (by omega)
      have k1 : (i : Int) + 1 < (nums r).length := by omega
      have k2 : ((i : Int) + 1).toNat = i + 1 := by omega
      have k3 : (0 : Int) ≤ (i : Int) + 1 := by omega
      have b2 : (i + 1 + 1) * 8 ≤ 70368744177664 := by omega
      have hc := choose_pc (G := R.G) b (i + 1) hb (by omega)
      rw [Int.natCast_add, Int.natCast_one] at hc
      simp -implicitDefEqProofs [lsS, hi, k1, k2, k3, ia]
      (first | refine CallK.of (hc) (by simp) ?_ | refine CallD.of (hc) (by simp) ?_)
      simp -implicitDefEqProofs []
      (first | refine CallK.of (lo) (by simp) ?_ | refine CallD.of (lo) (by simp) ?_)
      simp -implicitDefEqProofs [k0, w2, w1, ln, b2]
      refine ⟨rfl, ?_⟩
      have e1 : (lsV r b (i + 1)).map ia ++ [[AV.int .i64 (1 + (chV b (i + 1)).tmod (lastV r (nums r)[i + 1]))]] = (lsV r b (i + 1 + 1)).map ia := by rw [sc, List.map_append]; rfl
      rw [e1]
      ((try simp only [lsS]); refine Weak.sub (by simp [lk, keptA, AV.keys, lsS]) ?_; simp only [lsS, List.cons_append, List.nil_append, List.mem_cons, List.not_mem_nil, or_false, forall_eq_or_imp, forall_eq, ia_kept, and_true]; (try simp [lk, keptO, keptA, AV.keys, lsS]))
  · intro _
    refine GO_AR mixed 1000 ?_
    obtain ⟨n, hn⟩ : ∃ n, (nums r).length = n + 1 := ⟨(nums r).length - 1, by omega⟩
    have k1 : ¬ (n : Int) + 1 < n + 1 := by omega
    have pu : ((lsV r b (n + 1)).map ia).all (fun x => x.all AV.pure) = true := by simp [ia, AV.pure]
    have ln := lsV_len r b (n + 1)
    rw [hn]
    simp -implicitDefEqProofs [lsS, hn, k1]
    refine GO_ret mixed 1000 ?_
    simp -implicitDefEqProofs [pu, ln]
end
end Go.Proofs.YtdpmioiamcgfkaaDoor

/-! Another letter of a drawing: plain. -/
namespace Go.Proofs.YtdpmioiamcgfkaaDoor
open Go.RowKit

theorem foldl_congr {α β : Type} {f g : β → α → β} : ∀ {l : List α}, (∀ x ∈ l, ∀ b, f b x = g b x) → ∀ b, l.foldl f b = l.foldl g b
  | [], _, _ => rfl
  | x :: l, h, b => by
    rw [List.foldl_cons, List.foldl_cons, h x (List.mem_cons_self), foldl_congr fun y hy => h y (List.mem_cons_of_mem _ hy)]
theorem ask_ok {r : List Iss} {lt : List Int} {n : Int} (ho : openV r = 0) (hlt : ltB r lt = true) (hn : n ∈ nums r) : askV r lt n = 0 := by simp [askV, ho, hlt, hn]
end Go.Proofs.YtdpmioiamcgfkaaDoor

/-! The law SheetLetter, by the abstract machine. -/
namespace Go.Proofs.YtdpmioiamcgfkaaDoor
open Go.RowKit
section
variable {G : Nat → Option (List AV)}

end
end Go.Proofs.YtdpmioiamcgfkaaDoor

/-! Changes that turn one issue into another: plain. -/
namespace Go.Proofs.YtdpmioiamcgfkaaDoor
open Go.RowKit

theorem dpLk_key {n : Int} : ∀ {l : List (Int × Int)}, n ∈ l.map (·.1) ↔ dpLk n l ≠ none
  | [] => by simp [dpLk]
  | p :: l => by
    simp only [List.map_cons, List.mem_cons, dpLk]
    by_cases e : n = p.1
    · simp [e]
    · simp only [e, false_or, if_false]; exact dpLk_key
theorem dpLk_put (n v : Int) : ∀ (l : List (Int × Int)) (x : Int), dpLk x (mpPut n v l) = if x = n then some v else dpLk x l
  | [], x => by simp [mpPut, dpLk]
  | p :: l, x => by
    have ih := dpLk_put n v l x
    simp only [mpPut]
    by_cases e : p.1 = n
    · rw [if_pos e]
      simp only [dpLk]
      by_cases e2 : x = n
      · rw [if_pos e2, if_pos e2]
      · rw [if_neg e2, if_neg e2, if_neg (by rw [e]; exact e2)]
    · rw [if_neg e]
      simp only [dpLk]
      by_cases e2 : x = p.1
      · rw [if_pos e2, if_pos e2, if_neg (by rintro rfl; exact e e2.symm)]
      · rw [if_neg e2, if_neg e2]; exact ih
theorem put_keys (n v : Int) : ∀ (l : List (Int × Int)), (mpPut n v l).map (·.1) = if n ∈ l.map (·.1) then l.map (·.1) else l.map (·.1) ++ [n]
  | [] => by simp [mpPut]
  | p :: l => by
    have ih := put_keys n v l
    simp only [mpPut]
    by_cases e : p.1 = n
    · rw [if_pos e]; simp [e]
    · have e' : ¬ n = p.1 := fun h => e h.symm
      rw [if_neg e, List.map_cons, ih]
      simp only [List.map_cons, List.mem_cons, e', false_or]
      split <;> simp
theorem put_nodup {n v : Int} {l : List (Int × Int)} (h : (l.map (·.1)).Nodup) : ((mpPut n v l).map (·.1)).Nodup := by
  rw [put_keys]
  split
  · exact h
  · rename_i hn
    exact List.nodup_append.2 ⟨h, by simp, fun a ha b hb => by rw [List.mem_singleton] at hb; subst hb; exact fun e => hn (e ▸ ha)⟩
/-- A list that holds just the counts that are not 0. -/
def Good (m : List (Int × Int)) (h : Int → Int) : Prop := (m.map (·.1)).Nodup ∧ ∀ x, dpLk x m = if h x = 0 then none else some (h x)
theorem Good.get {m : List (Int × Int)} {h : Int → Int} (g : Good m h) (x : Int) : (dpLk x m).getD 0 = h x := by
  rw [g.2 x]; split
  · rename_i e; rw [e]; rfl
  · rfl
theorem Good.len {m l : List (Int × Int)} {h : Int → Int} (g : Good m h) (g2 : Good l h) : m.length = l.length := by
  have key : ∀ {a b : List (Int × Int)}, Good a h → Good b h → a.length ≤ b.length := fun {a b} ga gb => by
    have := List.Nodup.length_le_of_subset ga.1 (l₂ := b.map (·.1)) fun x hx => by
      rw [dpLk_key, gb.2 x, ← ga.2 x, ← dpLk_key]; exact hx
    simpa using this
  exact Nat.le_antisymm (key g g2) (key g2 g)
end Go.Proofs.YtdpmioiamcgfkaaDoor

/-! The law SheetTurned, by the abstract machine. -/
namespace Go.Proofs.YtdpmioiamcgfkaaDoor
open Go.RowKit

section
variable {G : Nat → Option (List AV)}

end
end Go.Proofs.YtdpmioiamcgfkaaDoor

/-! How deep a drawing is: plain. -/
namespace Go.Proofs.YtdpmioiamcgfkaaDoor
open Go.RowKit

end Go.Proofs.YtdpmioiamcgfkaaDoor

/-! Parts of an assembly are those of its items: plain. -/
namespace Go.Proofs.YtdpmioiamcgfkaaDoor
open Go.RowKit

/-- How often a part stands in a drawing. -/
def paZ (T : Int → Iss) : Nat → Int → Int → Int
  | 0, _, _ => 0
  | k + 1, d, n => if 1 < (T d).k then (if n = d then 1 else 0) else (T d).its.foldl (fun a y => a + y.2 * paZ T k y.1 n) 0
theorem fold_add {α : Type} (F : α → Int) : ∀ (l : List α) (a : Int), l.foldl (fun a y => a + F y) a = a + l.foldl (fun a y => a + F y) 0
  | [], a => by simp
  | y :: l, a => by
    rw [List.foldl_cons, List.foldl_cons, fold_add F l (a + F y), fold_add F l (0 + F y)]
    omega
theorem fold_nn {α : Type} {F : α → Int} : ∀ {l : List α}, (∀ y ∈ l, 0 ≤ F y) → 0 ≤ l.foldl (fun a y => a + F y) 0
  | [], _ => Int.le_refl _
  | y :: l, h => by
    rw [List.foldl_cons, fold_add]
    have h1 := h y (List.mem_cons_self)
    have h2 := fold_nn (F := F) fun z hz => h z (List.mem_cons_of_mem _ hz)
    omega
theorem fold_le {α : Type} {F : α → Int} {b : Int} : ∀ {l : List α}, (∀ y ∈ l, F y ≤ b) → l.foldl (fun a y => a + F y) 0 ≤ l.length * b
  | [], _ => by simp
  | y :: l, h => by
    rw [List.foldl_cons, fold_add]
    have h1 := h y (List.mem_cons_self)
    have h2 := fold_le (F := F) fun z hz => h z (List.mem_cons_of_mem _ hz)
    have e : ((y :: l).length : Int) * b = l.length * b + b := by rw [List.length_cons, Int.natCast_add, Int.add_mul]; simp
    omega
theorem fold_0 {α : Type} {F : α → Int} : ∀ {l : List α}, l.foldl (fun a y => a + F y) 0 ≠ 0 → ∃ y ∈ l, F y ≠ 0
  | [], h => absurd rfl h
  | x :: l, h => by
    rw [List.foldl_cons, fold_add] at h
    by_cases e : F x = 0
    · obtain ⟨y, hy, h2⟩ := fold_0 (F := F) (l := l) (by omega)
      exact ⟨y, List.mem_cons_of_mem _ hy, h2⟩
    · exact ⟨x, List.mem_cons_self, e⟩

/-- What the lists of drawings are in a register that is right. -/
structure Ok (T : Int → Iss) (D : List Int) : Prop where
  its : ∀ d ∈ D, ∀ y ∈ (T d).its, y.1 ∈ D
  len : ∀ d ∈ D, (T d).its.length ≤ 8
  pos : ∀ d ∈ D, ∀ y ∈ (T d).its, 1 ≤ y.2 ∧ y.2 ≤ 20
  one : ∀ d ∈ D, (T d).k = 1 → (T d).its ≠ []
  kin : ∀ d ∈ D, 1 ≤ (T d).k ∧ (T d).k ≤ 3
theorem paZ_bd {T : Int → Iss} {D : List Int} (h : Ok T D) : ∀ (k : Nat) (d n : Int), d ∈ D → 0 ≤ paZ T k d n ∧ paZ T k d n ≤ 160 ^ k
  | 0, _, _, _ => ⟨Int.le_refl _, by show (0 : Int) ≤ 160 ^ 0; decide⟩
  | k + 1, d, n, hd => by
    have hp : (0 : Int) < 160 ^ k := Int.pow_pos (by decide)
    have hp2 : (160 : Int) ^ (k + 1) = 160 ^ k * 160 := Int.pow_succ _ _
    rw [paZ]
    split
    · split <;> omega
    · have hy := fun y (hy : y ∈ (T d).its) => paZ_bd h k y.1 n (h.its d hd y hy)
      have hc := h.pos d hd
      refine ⟨fold_nn fun y hm => Int.mul_nonneg (by have := hc y hm; omega) (hy y hm).1, ?_⟩
      have h1 := fold_le (F := fun y : Int × Int => y.2 * paZ T k y.1 n) (b := 20 * 160 ^ k) (l := (T d).its) fun y hm => by
        have h2 := hc y hm
        have h3 := hy y hm
        exact Int.le_trans (Int.mul_le_mul_of_nonneg_right h2.2 h3.1) (Int.mul_le_mul_of_nonneg_left h3.2 (by decide))
      have h4 := h.len d hd
      have h5 : ((T d).its.length : Int) * (20 * 160 ^ k) ≤ 8 * (20 * 160 ^ k) := Int.mul_le_mul_of_nonneg_right (by omega) (by omega)
      omega
theorem wrapS {n : Int} (h0 : 0 ≤ n) (h1 : n ≤ 4611686018427387904) : IntKind.i64.wrap n = n := wrapI (by omega) (by omega)
/-- What the reference reckons is that, as it stays small. -/
theorem paV_ex {T : Int → Iss} {D : List Int} (h : Ok T D) : ∀ (k : Nat) (d m : Int) (g : Int → Int), k ≤ 6 → d ∈ D → 0 ≤ m → m ≤ 20 ^ (6 - k) → (∀ n, 0 ≤ g n ∧ g n + m * paZ T k d n ≤ 4611686018427387904) → ∀ n, paV T k d m g n = g n + m * paZ T k d n
  | 0, _, _, g, _, _, _, _, _, n => by rw [paV, paZ, Int.mul_zero, Int.add_zero]
  | k + 1, d, m, g, hk, hd, hm0, hm1, hg, n => by
    have hZ : ∀ n, paZ T (k + 1) d n = if 1 < (T d).k then (if n = d then 1 else 0) else (T d).its.foldl (fun a y => a + y.2 * paZ T k y.1 n) 0 := fun _ => rfl
    rw [paV]
    by_cases hK : 1 < (T d).k
    · rw [if_pos hK, hZ, if_pos hK]
      by_cases e : n = d
      · subst e
        have := hg n
        rw [hZ, if_pos hK, if_pos rfl] at this
        rw [if_pos rfl, if_pos rfl, addW, wrapS (by omega) (by omega)]; omega
      · rw [if_neg e, if_neg e]; omega
    · rw [if_neg hK, hZ, if_neg hK]
      simp only [hZ, if_neg hK] at hg
      have hc := h.pos d hd
      have hi := h.its d hd
      have e20 : (20 : Int) ^ (6 - k) = 20 ^ (6 - (k + 1)) * 20 := by rw [← Int.pow_succ]; congr 1; omega
      have hp20 : (20 : Int) ^ (6 - k) ≤ 64000000 := by
        have : (20 : Int) ^ (6 - k) ≤ 20 ^ 6 := by exact_mod_cast Nat.pow_le_pow_right (by decide : 0 < 20) (by omega : 6 - k ≤ 6)
        exact this
      have key : ∀ (l : List (Int × Int)) (g : Int → Int), (∀ y ∈ l, y ∈ (T d).its) → (∀ n, 0 ≤ g n ∧ g n + m * l.foldl (fun a y => a + y.2 * paZ T k y.1 n) 0 ≤ 4611686018427387904) → ∀ n, l.foldl (fun g y => paV T k y.1 (mulW m y.2) g) g n = g n + m * l.foldl (fun a y => a + y.2 * paZ T k y.1 n) 0 := by
        intro l
        induction l with
        | nil => intro g _ _ n; simp
        | cons y l ih =>
          intro g hl hg n
          have hy := hl y (List.mem_cons_self)
          have hc1 := hc y hy
          have hm2 : m * y.2 ≤ 20 ^ (6 - k) := by
            rw [e20]
            exact Int.le_trans (Int.mul_le_mul_of_nonneg_left hc1.2 hm0) (Int.mul_le_mul_of_nonneg_right hm1 (by decide))
          have hm3 : 0 ≤ m * y.2 := Int.mul_nonneg hm0 (by omega)
          have hmw : mulW m y.2 = m * y.2 := by rw [mulW, wrapS hm3 (by omega)]
          have hs : ∀ n, (y :: l).foldl (fun a y => a + y.2 * paZ T k y.1 n) 0 = y.2 * paZ T k y.1 n + l.foldl (fun a y => a + y.2 * paZ T k y.1 n) 0 := fun n => by
            rw [List.foldl_cons, fold_add (fun y : Int × Int => y.2 * paZ T k y.1 n)]; omega
          have hz := fun n => (paZ_bd h k y.1 n (hi y hy)).1
          have hnn : ∀ n, 0 ≤ l.foldl (fun a y => a + y.2 * paZ T k y.1 n) 0 := fun n => fold_nn fun z hz => by
            have hz2 := hl z (List.mem_cons_of_mem _ hz)
            exact Int.mul_nonneg (by have := hc z hz2; omega) (paZ_bd h k z.1 n (hi z hz2)).1
          have hq : ∀ n, m * (y :: l).foldl (fun a y => a + y.2 * paZ T k y.1 n) 0 = m * y.2 * paZ T k y.1 n + m * l.foldl (fun a y => a + y.2 * paZ T k y.1 n) 0 := fun n => by
            rw [hs, Int.mul_add, Int.mul_assoc]
          have hq2 : ∀ n, 0 ≤ m * l.foldl (fun a y => a + y.2 * paZ T k y.1 n) 0 := fun n => Int.mul_nonneg hm0 (hnn n)
          have hq3 : ∀ n, 0 ≤ m * y.2 * paZ T k y.1 n := fun n => Int.mul_nonneg hm3 (hz n)
          have ih1 := paV_ex h k y.1 (m * y.2) g (by omega) (hi y hy) hm3 hm2 fun n => ⟨(hg n).1, by have := (hg n).2; rw [hq] at this; have := hq2 n; omega⟩
          rw [List.foldl_cons, hmw, ih _ (fun z hz => hl z (List.mem_cons_of_mem _ hz)) fun n => by
            rw [ih1 n]
            have h1 := hg n
            rw [hq] at h1
            have := hq3 n
            omega, ih1 n, hq]
          omega
      exact key _ g (fun _ h => h) hg n
end Go.Proofs.YtdpmioiamcgfkaaDoor

/-! Parts of an assembly are those of its items: plain, the counting. -/
namespace Go.Proofs.YtdpmioiamcgfkaaDoor
open Go.RowKit

theorem ok_of {r : List Iss} {lt : List Int} (ho : openV r = 0) (hlt : ltB r lt = true) : Ok (tkV r lt) (nums r) := by
  have hL := open_listed ho
  have hi := fun d (hd : d ∈ nums r) => listed_iss hL (tk_mem hL hlt hd).1
  refine ⟨fun d hd => tk_its hL hlt hd, tk_8 ho hlt, fun d hd y hy => ?_, fun d hd h1 h2 => ?_, fun d hd => ?_⟩
  · obtain ⟨j, hj, rfl⟩ := List.getElem_of_mem hy
    have := its_at (hi d hd) hj
    exact ⟨this.2.1, this.2.2.1⟩
  · have h3 := hi d hd
    simp only [issB, headB, Bool.and_eq_true, inR, decide_eq_true_eq, h1, if_true] at h3
    rw [h2] at h3
    have := h3.1.1.2.1
    simp at this
  · have := iss_kind (hi d hd)
    exact ⟨this.1, this.2.1⟩
section
variable {r : List Iss} {lt : List Int}
theorem paZ_in (ho : openV r = 0) (hlt : ltB r lt = true) : ∀ (k : Nat) (d n : Int), d ∈ nums r → paZ (tkV r lt) k d n ≠ 0 → n ∈ nums r ∧ 1 < (tkV r lt n).k
  | 0, _, _, _, h => absurd rfl h
  | k + 1, d, n, hd, h => by
    rw [paZ] at h
    split at h
    · split at h
      · rename_i h1 h2; subst h2; exact ⟨hd, h1⟩
      · exact absurd rfl h
    · obtain ⟨y, hy, h1⟩ := fold_0 (F := fun y : Int × Int => y.2 * paZ (tkV r lt) k y.1 n) h
      exact paZ_in ho hlt k y.1 n (tk_its (open_listed ho) hlt hd y hy) fun e => h1 (by rw [e, Int.mul_zero])
/-- What Explode tells, by the plain count. -/
def pzN (r : List Iss) (lt : List Int) (d : Int) : List (Int × Int) := ptN (nums r) (paZ (tkV r lt) 6 d) (nums r).length
theorem exV_pz (ho : openV r = 0) (hlt : ltB r lt = true) {d : Int} (hd : d ∈ nums r) : exV r lt d = (pzN r lt d, 0) := by
  have hO := ok_of ho hlt
  have e : (paV (tkV r lt) 6 d 1 fun _ => 0) = paZ (tkV r lt) 6 d := by
    funext n
    have := paV_ex hO 6 d 1 (fun _ => 0) (Nat.le_refl _) hd (by decide) (by decide) (fun n => ⟨Int.le_refl _, by
      have := (paZ_bd hO 6 d n hd).2
      have e6 : (160 : Int) ^ 6 = 16777216000000 := by decide
      rw [e6] at this
      omega⟩) n
    rw [this]; omega
  rw [exV, if_pos (ask_ok ho hlt hd), e]; rfl
end
theorem Good.put {m : List (Int × Int)} {h : Int → Int} (gd : Good m h) {n v : Int} (hv : v ≠ 0) : Good (mpPut n v m) (fun x => if x = n then v else h x) := by
  refine ⟨put_nodup gd.1, fun x => ?_⟩
  rw [dpLk_put]
  by_cases e2 : x = n
  · subst e2; simp [hv]
  · rw [if_neg e2]; have := gd.2 x; simp [e2, this]
end Go.Proofs.YtdpmioiamcgfkaaDoor

/-! The law SheetItems, by the abstract machine. -/
namespace Go.Proofs.YtdpmioiamcgfkaaDoor
open Go.RowKit

section
variable {G : Nat → Option (List AV)}

end
end Go.Proofs.YtdpmioiamcgfkaaDoor

/-! What is below a drawing: plain. -/
namespace Go.Proofs.YtdpmioiamcgfkaaDoor
open Go.RowKit

def gB (l : List (Int × Bool)) (n : Int) : Bool := (mlk n l).getD false
theorem gB_put (n : Int) (v : Bool) (l : List (Int × Bool)) (m : Int) : gB (mpP n v l) m = if m = n then v else gB l m := by
  unfold gB; rw [mlk_mpP]; split <;> rfl
def LeB (l l' : List (Int × Bool)) : Prop := ∀ n, gB l n = true → gB l' n = true
theorem LeB.foldl {α : Type} {f : List (Int × Bool) → α → List (Int × Bool)} (h : ∀ l a, LeB l (f l a)) : ∀ (xs : List α) (l : List (Int × Bool)), LeB l (xs.foldl f l)
  | [], _ => fun _ h => h
  | x :: xs, l => fun n hn => LeB.foldl h xs (f l x) n (h l x n hn)
theorem inv_foldl {α β : Type} {P : β → Prop} {f : β → α → β} : ∀ (xs : List α) (l : β), (∀ a ∈ xs, ∀ l, P l → P (f l a)) → P l → P (xs.foldl f l)
  | [], _, _, h => h
  | x :: xs, l, hf, h => inv_foldl xs (f l x) (fun a ha => hf a (List.mem_cons_of_mem _ ha)) (hf x (List.mem_cons_self) l h)
def bwS (d : Int) (l : List (Int × Bool)) (y : Int × Int) : List (Int × Bool) := mpP y.1 (gB l y.1 || gB l d) l
def bwX (l : List (Int × Bool)) (x : Iss) : List (Int × Bool) := x.its.foldl (bwS x.d) l
def bwR (r : List Iss) (l : List (Int × Bool)) : List (Int × Bool) := r.foldl bwX l
def bwN (r : List Iss) (d : Int) : Nat → List (Int × Bool)
  | 0 => [(d, true)]
  | k + 1 => bwR r (bwN r d k)
theorem bwS_le (d : Int) (l : List (Int × Bool)) (y : Int × Int) : LeB l (bwS d l y) := fun n hn => by
  rw [bwS, gB_put]
  split
  · rename_i e; subst e; rw [hn]; rfl
  · exact hn
theorem bwX_le (l : List (Int × Bool)) (x : Iss) : LeB l (bwX l x) := LeB.foldl (bwS_le x.d) _ _
theorem bwR_le (r : List Iss) (l : List (Int × Bool)) : LeB l (bwR r l) := LeB.foldl bwX_le _ _
theorem bwN_le {r : List Iss} {d : Int} {k : Nat} : ∀ {j : Nat}, k ≤ j → LeB (bwN r d k) (bwN r d j)
  | 0, h => by obtain rfl : k = 0 := by omega
               exact fun _ h => h
  | j + 1, h => by
    rcases Nat.lt_or_ge k (j + 1) with h1 | h1
    · exact fun n hn => bwR_le r _ n (bwN_le (j := j) (by omega) n hn)
    · obtain rfl : k = j + 1 := by omega
      exact fun _ h => h
theorem bw_round {r : List Iss} {x : Iss} (hx : x ∈ r) {y : Int × Int} (hy : y ∈ x.its) {l : List (Int × Bool)} (h : gB l x.d = true) : gB (bwR r l) y.1 = true := by
  obtain ⟨s, t, rfl⟩ := List.append_of_mem hx
  rw [bwR, List.foldl_append, List.foldl_cons]
  refine LeB.foldl bwX_le t _ _ ?_
  have h1 := LeB.foldl bwX_le s l _ h
  generalize s.foldl bwX l = l1 at *
  rw [bwX]
  obtain ⟨u, v, e⟩ := List.append_of_mem hy
  rw [e, List.foldl_append, List.foldl_cons]
  refine LeB.foldl (bwS_le x.d) v _ _ ?_
  have h2 := LeB.foldl (bwS_le x.d) u l1 _ h1
  rw [bwS, gB_put, if_pos rfl, h2, Bool.or_true]
/-- Reached from a drawing by so many steps. -/
inductive Rb (r : List Iss) (d : Int) : Nat → Int → Prop
  | base : Rb r d 0 d
  | step {k : Nat} {m n : Int} : Rb r d k m → n ∈ C r m → Rb r d (k + 1) n
theorem C_mem {r : List Iss} {m n : Int} : n ∈ C r m ↔ ∃ x ∈ r, x.d = m ∧ ∃ y ∈ x.its, y.1 = n := by
  unfold C chL issOf
  simp only [List.mem_flatMap, List.mem_filter, decide_eq_true_eq, List.mem_map]
  constructor
  · rintro ⟨x, ⟨hx, hm⟩, y, hy, e⟩; exact ⟨x, hx, hm, y, hy, e⟩
  · rintro ⟨x, hx, hm, y, hy, e⟩; exact ⟨x, ⟨hx, hm⟩, y, hy, e⟩
theorem Rb.inn {r : List Iss} {d : Int} {k : Nat} {n : Int} (h : Rb r d k n) : gB (bwN r d k) n = true := by
  induction h with
  | base => simp [bwN, gB, mlk]
  | step _ hc ih =>
    obtain ⟨x, hx, hm, y, hy, e⟩ := C_mem.1 hc
    rw [← e]
    exact bw_round hx hy (by rw [hm]; exact ih)
theorem Rb.bd {r : List Iss} (ho : openV r = 0) {d : Int} (hd : d ∈ nums r) {k : Nat} {n : Int} (h : Rb r d k n) : n ∈ nums r ∧ dpN r n + k ≤ dpN r d := by
  induction h with
  | base => exact ⟨hd, Nat.le_refl _⟩
  | step _ hc ih =>
    have h1 := dpN_lt ho ih.1 hc
    exact ⟨C_in (fun x hx => listed_in (open_listed ho) hx) hc, by omega⟩
theorem bw_sound {r : List Iss} {d : Int} : ∀ (k : Nat) (n : Int), gB (bwN r d k) n = true → ∃ j, Rb r d j n
  | 0, n, h => by
    by_cases e : n = d
    · subst e; exact ⟨0, .base⟩
    · simp [bwN, gB, mlk, e] at h
  | k + 1, n, h => by
    have key : ∀ n, gB (bwR r (bwN r d k)) n = true → ∃ j, Rb r d j n := by
      refine inv_foldl (P := fun l => ∀ n, gB l n = true → ∃ j, Rb r d j n) r (bwN r d k) (fun x hx l hl => ?_) (bw_sound k)
      refine inv_foldl (P := fun l => ∀ n, gB l n = true → ∃ j, Rb r d j n) x.its l (fun y hy l hl n hn => ?_) hl
      rw [bwS, gB_put] at hn
      split at hn
      · rename_i e
        rw [Bool.or_eq_true] at hn
        rcases hn with hn | hn
        · rw [e]; exact hl _ hn
        · obtain ⟨j, hj⟩ := hl _ hn
          exact ⟨j + 1, .step hj (C_mem.2 ⟨x, hx, rfl, y, hy, e.symm⟩)⟩
      · exact hl _ hn
    exact key n h
def bwB (r : List Iss) (d n : Int) : Bool := gB (bwN r d 6) n
theorem bw_self (r : List Iss) (d : Int) : bwB r d d = true := bwN_le (Nat.zero_le _) d (Rb.base (r := r)).inn
section
variable {r : List Iss} {d : Int}
theorem bw_num (ho : openV r = 0) (hd : d ∈ nums r) {n : Int} (h : bwB r d n = true) : n ∈ nums r := by
  obtain ⟨j, hj⟩ := bw_sound 6 n h
  exact (hj.bd ho hd).1
theorem bw_C (ho : openV r = 0) (hd : d ∈ nums r) {m c : Int} (h : bwB r d m = true) (hc : c ∈ C r m) : bwB r d c = true := by
  obtain ⟨j, hj⟩ := bw_sound 6 m h
  have h1 := hj.step hc
  obtain ⟨h2, h3⟩ := h1.bd ho hd
  have h4 := dpN_bd ho h2
  have h5 := dpN_bd ho hd
  exact bwN_le (by omega) c h1.inn
end

/-! ### The register of what is below. -/
def nxB (p x : Iss) : Bool := if x.d < p.d then false else if p.d < x.d then decide (x.l = 1) else decide (x.l = p.l + 1) && decide (x.k = p.k)
theorem nx_le {p x : Iss} (h : nxB p x = true) : p.d ≤ x.d := by
  unfold nxB at h
  split at h
  · cases h
  · omega
def chB (p : Iss) : List Iss → Bool
  | [] => true
  | x :: l => nxB p x && chB x l
theorem ch_of : ∀ (l : List Iss) (p : Iss), (0 < l.length → nxB p (at' l 0) = true) → (∀ i, i + 1 < l.length → nxB (at' l i) (at' l (i + 1)) = true) → chB p l = true
  | [], _, _, _ => rfl
  | x :: l, p, h0, hs => by
    have h1 := h0 (by simp)
    rw [chB, Bool.and_eq_true]
    exact ⟨h1, ch_of l x (fun h => hs 0 (by simp only [List.length_cons]; omega)) fun i hi => hs (i + 1) (by simp only [List.length_cons]; omega)⟩
theorem ch_to : ∀ (l : List Iss) (p : Iss), chB p l = true → (0 < l.length → nxB p (at' l 0) = true) ∧ ∀ i, i + 1 < l.length → nxB (at' l i) (at' l (i + 1)) = true
  | [], _, _ => ⟨fun h => by simp at h, fun i hi => by simp at hi⟩
  | x :: l, p, h => by
    rw [chB, Bool.and_eq_true] at h
    obtain ⟨h1, h2⟩ := ch_to l x h.2
    refine ⟨fun _ => h.1, fun i hi => ?_⟩
    simp only [List.length_cons] at hi
    match i with
    | 0 => exact h1 (by omega)
    | i + 1 => exact h2 i (by omega)
theorem ch_filter (f : Int → Bool) : ∀ (l : List Iss) (p q : Iss), chB p l = true → (f p.d = true → q = p) → q.d ≤ p.d → chB q (l.filter fun x => f x.d) = true
  | [], _, _, _, _, _ => rfl
  | x :: l, p, q, h, hq, hle => by
    rw [chB, Bool.and_eq_true] at h
    have hpx := nx_le h.1
    by_cases e : f x.d = true
    · rw [List.filter_cons_of_pos (p := fun x : Iss => f x.d) e, chB, Bool.and_eq_true]
      refine ⟨?_, ch_filter f l x x h.2 (fun _ => rfl) (Int.le_refl _)⟩
      by_cases e2 : f p.d = true
      · rw [hq e2]; exact h.1
      · have hne : p.d ≠ x.d := fun e3 => e2 (e3 ▸ e)
        have h1 := h.1
        unfold nxB at h1 ⊢
        rw [if_neg (by omega), if_pos (by omega)] at h1
        rw [if_neg (by omega), if_pos (by omega)]
        exact h1
    · rw [List.filter_cons_of_neg (p := fun x : Iss => f x.d) e]
      exact ch_filter f l x q h.2 (fun h => absurd h e) (by omega)
theorem int_uniq {a b : List Int} (ha : a.Pairwise (· < ·)) (hb : b.Pairwise (· < ·)) (h : ∀ x, x ∈ a ↔ x ∈ b) : a = b := by
  have na : a.Nodup := ha.imp fun h => Int.ne_of_lt h
  have nb : b.Nodup := hb.imp fun h => Int.ne_of_lt h
  exact List.Perm.eq_of_pairwise (le := fun x y : Int => x < y) (fun x y _ _ h1 h2 => by omega) ha hb ((List.perm_ext_iff_of_nodup na nb).2 h)
theorem dvIt_congr {f g : Int → Int} : ∀ (its : List (Int × Int)) (m : Int), (∀ y ∈ its, f y.1 = g y.1) → dvIt f m its = dvIt g m its
  | [], _, _ => rfl
  | y :: its, m, h => by
    have e : ∀ f : Int → Int, dvIt f m (y :: its) = dvIt f (max m (1 + f y.1)) its := fun _ => rfl
    rw [e, e, h y (List.mem_cons_self)]
    exact dvIt_congr its _ fun z hz => h z (List.mem_cons_of_mem _ hz)
theorem dvL_congr {f g : Int → Int} : ∀ (l : List Iss) (m : Int), (∀ c ∈ chL l, f c = g c) → dvL f m l = dvL g m l
  | [], _, _ => rfl
  | x :: l, m, h => by
    have e : ∀ f : Int → Int, dvL f m (x :: l) = dvL f (dvIt f (max m 1) x.its) l := fun _ => rfl
    rw [chL_cons] at h
    rw [e, e, dvIt_congr x.its _ fun y hy => h y.1 (List.mem_append.2 (.inl (List.mem_map.2 ⟨y, hy, rfl⟩)))]
    exact dvL_congr l _ fun c hc => h c (List.mem_append.2 (.inr hc))
theorem findN_filter (f : Int → Bool) {n k : Int} (hf : f n = true) : ∀ l : List Iss, findN n k (l.filter fun x => f x.d) = findN n k l
  | [] => rfl
  | x :: l => by
    have ih := findN_filter f (k := k) hf l
    by_cases e : f x.d = true
    · rw [List.filter_cons_of_pos (p := fun x : Iss => f x.d) e, findN, findN, ih]
    · rw [List.filter_cons_of_neg (p := fun x : Iss => f x.d) e, ih, findN, if_neg]
      rintro ⟨h, -⟩
      rw [h] at e
      exact e hf

def lsR (r : List Iss) (d : Int) : List Iss := r.filter fun x => bwB r d x.d
section
variable {r : List Iss} {d : Int}
theorem ls_ch (hL : listedB r = true) : chB zI (lsR r d) = true := by
  refine ch_filter (bwB r d) r zI zI (ch_of r zI (fun h => ?_) fun i hi => listed_ord hL hi) (fun _ => rfl) (Int.le_refl _)
  have h0 := listed_ord hL h
  have hp := listed_okN hL _ (List.getElem_mem h)
  rw [← at_eq h] at hp
  simp only [ordB, decide_eq_true_eq] at h0
  have hz : zI.d = 0 := rfl
  unfold nxB
  rw [if_neg (by have := hp.1; omega), if_pos (by have := hp.1; omega), decide_eq_true_eq]
  exact h0
theorem ls_Ord (hL : listedB r = true) : Ord (lsR r d) := fun i hi => nx_le ((ch_to _ _ (ls_ch hL)).2 i hi)
theorem ls_iss {n : Int} (h : bwB r d n = true) : issOf (lsR r d) n = issOf r n := by
  unfold issOf lsR
  rw [List.filter_filter]
  refine List.filter_congr fun x _ => ?_
  by_cases e : x.d = n
  · subst e; simp [h]
  · simp [e]
theorem ls_C {n : Int} (h : bwB r d n = true) : C (lsR r d) n = C r n := by unfold C; rw [ls_iss h]
theorem ls_nums (ho : openV r = 0) (hd : d ∈ nums r) : nums (lsR r d) = (nums r).filter (bwB r d) := by
  have hL := open_listed ho
  refine int_uniq (nums_lt (ls_Ord hL)) ((nums_lt (ord_of hL)).filter _) fun n => ?_
  rw [List.mem_filter]
  constructor
  · intro h
    obtain ⟨i, hi, e⟩ := nums_of (ls_Ord hL) h
    have hm := List.mem_filter.1 (List.getElem_mem hi)
    rw [e] at hm
    exact ⟨bw_num ho hd hm.2, hm.2⟩
  · rintro ⟨h1, h2⟩
    obtain ⟨i, hi, e⟩ := nums_of (ord_of hL) h1
    have hm : r[i] ∈ lsR r d := List.mem_filter.2 ⟨List.getElem_mem hi, by rw [e]; exact h2⟩
    obtain ⟨j, hj, e2⟩ := List.getElem_of_mem hm
    have := nums_mem (ls_Ord hL (d := d)) hj
    rwa [e2, e] at this
theorem ls_mem (ho : openV r = 0) (hd : d ∈ nums r) {n : Int} : n ∈ nums (lsR r d) ↔ bwB r d n = true := by
  rw [ls_nums ho hd, List.mem_filter]
  exact ⟨fun h => h.2, fun h => ⟨bw_num ho hd h, h⟩⟩
theorem ls_listed (ho : openV r = 0) (hd : d ∈ nums r) : listedB (lsR r d) = true := by
  have hL := open_listed ho
  have h60 := listed_60 hL
  have hlen : (lsR r d).length ≤ r.length := List.length_filter_le _ _
  have hne : 0 < (lsR r d).length := by
    obtain ⟨i, hi, e⟩ := nums_of (ord_of hL) hd
    exact List.length_pos_of_mem (a := r[i]) (List.mem_filter.2 ⟨List.getElem_mem hi, by rw [e]; exact bw_self r d⟩)
  have hn : (nums (lsR r d)).length ≤ 20 := by
    rw [ls_nums ho hd]
    exact Nat.le_trans (List.length_filter_le _ _) (listed_20 hL)
  obtain ⟨c0, c1⟩ := ch_to _ _ (ls_ch (d := d) hL)
  simp only [listedB, Bool.and_eq_true]
  refine ⟨⟨⟨⟨decide_eq_true (by omega), List.all_eq_true.2 fun x hx => listed_iss hL (List.mem_filter.1 hx).1⟩, range_all.2 fun j hj => ?_⟩, ?_⟩, decide_eq_true hn⟩
  · match j with
    | 0 =>
      have h0 := c0 hne
      have hx := List.getElem_mem hne
      have hp := listed_okN hL _ (List.mem_filter.1 hx).1
      rw [← at_eq hne] at hp
      have hz : zI.d = 0 := rfl
      unfold nxB at h0
      rw [if_neg (by have := hp.1; omega), if_pos (by have := hp.1; omega)] at h0
      exact h0
    | j + 1 => exact c1 j hj
  · refine List.all_eq_true.2 fun x hx => List.all_eq_true.2 fun y hy => decide_eq_true ?_
    obtain ⟨h1, h2⟩ := List.mem_filter.1 hx
    exact (ls_mem ho hd).2 (bw_C ho hd h2 (C_mem.2 ⟨x, h1, rfl, y, hy, rfl⟩))
theorem ls_Dv (ho : openV r = 0) (hd : d ∈ nums r) : ∀ (j : Nat) (n : Int), bwB r d n = true → Dv (lsR r d) j n = Dv r j n
  | 0, _, _ => rfl
  | j + 1, n, h => by
    rw [Dv_eq, Dv_eq, ls_iss h]
    exact dvL_congr _ _ fun c hc => ls_Dv ho hd j c (bw_C ho hd h hc)
theorem dv_late (ho : openV r = 0) {n : Int} (hn : n ∈ nums r) {j : Nat} (hj : (nums r).length + 1 ≤ j) : Dv r j n = Dv r ((nums r).length + 1) n := by
  have hL := open_listed ho
  obtain ⟨h1, h2⟩ := dp_Dv hL (left_none ho) hn
  have hb := (DInv.run r (nums r).length).bd _ h1
  have hl := (DInv.run r (nums r).length).len
  have h3 := AInv.run (ord_of hL) (fun x hx => listed_in hL hx) (nums r).length _ h1
  rw [h2]
  exact h3 j (by simp only at hb ⊢; omega)
theorem ls_left (ho : openV r = 0) (hd : d ∈ nums r) : (dRun (lsR r d) (nums (lsR r d)).length).2.length = 0 := by
  have hsub : ∀ n ∈ (dRun (lsR r d) (nums (lsR r d)).length).2, n ∈ nums (lsR r d) := fun n hn => (DInv.run (lsR r d) _).perm.mem_iff.1 (List.mem_append.2 (.inr hn))
  rcases run_or (lsR r d) (nums (lsR r d)).length with h | h
  · omega
  · generalize (dRun (lsR r d) (nums (lsR r d)).length).2 = L at *
    have key : ∀ (k : Nat) (n : Int), n ∈ L → dpN r n ≤ k → False := by
      intro k
      induction k with
      | zero => intro n hn hk; exact dp_pos ho (bw_num ho hd ((ls_mem ho hd).1 (hsub n hn))) hk
      | succ k ih =>
        intro n hn hk
        have hb := (ls_mem ho hd).1 (hsub n hn)
        obtain ⟨c, hc, hcL⟩ := h n hn
        rw [ls_C hb] at hc
        have := dpN_lt ho (bw_num ho hd hb) hc
        exact ih c hcL (by omega)
    match L with
    | [] => rfl
    | n :: L => exact (key _ n (List.mem_cons_self) (Nat.le_refl _)).elim
theorem ls_dp (ho : openV r = 0) (hd : d ∈ nums r) {n : Int} (hn : n ∈ nums (lsR r d)) : dpG (dRun (lsR r d) (nums (lsR r d)).length).1 n = Dv r ((nums r).length + 1) n := by
  have hL := ls_listed ho hd
  have hb := (ls_mem ho hd).1 hn
  obtain ⟨h1, h2⟩ := dp_Dv hL (ls_left ho hd) hn
  have h3 := AInv.run (ord_of hL) (fun x hx => listed_in hL hx) (nums (lsR r d)).length _ h1 ((nums r).length + 1 + (nums (lsR r d)).length) (by
    have h4 := (DInv.run (lsR r d) (nums (lsR r d)).length).bd _ h1
    have h5 := (DInv.run (lsR r d) (nums (lsR r d)).length).len
    simp only at h4 ⊢; omega)
  rw [ls_Dv ho hd _ _ hb, dv_late ho (bw_num ho hd hb) (by omega)] at h3
  exact h3.symm
theorem ls_open (ho : openV r = 0) (hd : d ∈ nums r) : openV (lsR r d) = 0 := by
  have h0 := ls_left ho hd
  unfold openV
  rw [if_pos (ls_listed ho hd), if_neg (by omega), if_neg]
  rintro ⟨p, hp, h6⟩
  have hD := DInv.run (lsR r d) (nums (lsR r d)).length
  have hn : p.1 ∈ nums (lsR r d) := hD.perm.mem_iff.1 (List.mem_append.2 (.inl (List.mem_map.2 ⟨p, hp, rfl⟩)))
  have hb := (ls_mem ho hd).1 hn
  have hL := ls_listed ho hd
  have h3 := AInv.run (ord_of hL) (fun x hx => listed_in hL hx) (nums (lsR r d)).length _ hp ((nums r).length + 1 + (nums (lsR r d)).length) (by
    have h4 := hD.bd _ hp
    have h5 := hD.len
    omega)
  rw [ls_Dv ho hd _ _ hb, dv_late ho (bw_num ho hd hb) (by omega)] at h3
  have h6b := (dpN_bd ho (bw_num ho hd hb)).2
  unfold dpN at h6b
  omega
/-- The letters of what is below. -/
def owL (r : List Iss) (lt : List Int) (d : Int) (i : Nat) : List Int := (((nums r).take i).filter (bwB r d)).map (ltOf r lt)
theorem owL_succ {lt : List Int} {i : Nat} (h : i < (nums r).length) : owL r lt d (i + 1) = if bwB r d (nums r)[i] = true then owL r lt d i ++ [ltOf r lt (nums r)[i]] else owL r lt d i := by
  unfold owL
  rw [List.take_succ_eq_append_getElem h, List.filter_append]
  split
  · rename_i e; rw [List.filter_cons_of_pos e]; simp
  · rename_i e; rw [List.filter_cons_of_neg e]; simp
theorem owL_end (ho : openV r = 0) (hd : d ∈ nums r) {lt : List Int} : owL r lt d (nums r).length = (nums (lsR r d)).map (ltOf r lt) := by
  rw [owL, List.take_length, ls_nums ho hd]
theorem ls_lt (ho : openV r = 0) (hd : d ∈ nums r) {lt : List Int} {n : Int} (hn : n ∈ nums (lsR r d)) : ltOf (lsR r d) ((nums (lsR r d)).map (ltOf r lt)) n = ltOf r lt n := by
  obtain ⟨h1, h2⟩ := nums_idx hn
  rw [ltOf]
  generalize (nums (lsR r d)).idxOf n = i at *
  rw [List.getD_eq_getElem?_getD, List.getElem?_map] 
  rw [List.getD_eq_getElem?_getD, List.getElem?_eq_getElem h1] at h2
  rw [List.getElem?_eq_getElem h1]
  simp only [Option.getD_some] at h2
  simp only [Option.map_some, Option.getD_some, h2]
theorem ls_tk (ho : openV r = 0) (hd : d ∈ nums r) {lt : List Int} {n : Int} (hn : n ∈ nums (lsR r d)) : tkV (lsR r d) ((nums (lsR r d)).map (ltOf r lt)) n = tkV r lt n := by
  have e : findN n (ltOf r lt n) (lsR r d) = findN n (ltOf r lt n) r := findN_filter (bwB r d) ((ls_mem ho hd).1 hn) r
  rw [tkV, ls_lt ho hd hn, tkV, e]
theorem ls_ltB (ho : openV r = 0) (hd : d ∈ nums r) {lt : List Int} (hlt : ltB r lt = true) : ltB (lsR r d) ((nums (lsR r d)).map (ltOf r lt)) = true := by
  have hL := open_listed ho
  have hL2 := ls_listed ho hd
  simp only [ltB, Bool.and_eq_true, decide_eq_true_eq, List.length_map, true_and]
  rw [range_all]
  intro j hj
  have hn : (nums (lsR r d))[j] ∈ nums (lsR r d) := List.getElem_mem hj
  have hb := (ls_mem ho hd).1 hn
  have e1 : ((nums (lsR r d)).map (ltOf r lt)).getD j 0 = ltOf r lt (nums (lsR r d))[j] := by simp [List.getD_eq_getElem?_getD, hj]
  have e2 : (nums (lsR r d)).getD j 0 = (nums (lsR r d))[j] := by simp [List.getD_eq_getElem?_getD, hj]
  rw [e1, e2]
  have h1 := tk_some hL hlt (bw_num ho hd hb)
  refine (find_iff hL2 _ _).1 ?_
  have e : findN (nums (lsR r d))[j] (ltOf r lt (nums (lsR r d))[j]) (lsR r d) = _ := findN_filter (bwB r d) hb r
  rw [e, h1]; rfl
theorem tr_congr {T T' : Int → Iss} {P : Int → Prop} (he : ∀ n, P n → T n = T' n) (hc : ∀ n, P n → ∀ y ∈ (T n).its, P y.1) : ∀ (k : Nat) (dep d c : Int), P d → trV T k dep d c = trV T' k dep d c
  | 0, _, _, _, _ => rfl
  | k + 1, dep, d, c, h => by
    have e : ∀ T : Int → Iss, trV T (k + 1) dep d c = ⟨dep, d, (T d).l, c⟩ :: (T d).its.flatMap fun y => trV T k (dep + 1) y.1 y.2 := fun _ => rfl
    rw [e, e, ← he d h]
    congr 1
    have key : ∀ its : List (Int × Int), (∀ y ∈ its, P y.1) → (its.flatMap fun y => trV T k (dep + 1) y.1 y.2) = its.flatMap fun y => trV T' k (dep + 1) y.1 y.2 := by
      intro its
      induction its with
      | nil => intro _; rfl
      | cons y its ih =>
        intro hy
        rw [List.flatMap_cons, List.flatMap_cons, ih fun z hz => hy z (List.mem_cons_of_mem _ hz), tr_congr he hc k _ _ _ (hy y (List.mem_cons_self))]
    exact key _ (hc d h)
theorem paZ_congr {T T' : Int → Iss} {P : Int → Prop} (he : ∀ n, P n → T n = T' n) (hc : ∀ n, P n → ∀ y ∈ (T n).its, P y.1) : ∀ (k : Nat) (d n : Int), P d → paZ T k d n = paZ T' k d n
  | 0, _, _, _ => rfl
  | k + 1, d, n, h => by
    rw [paZ, paZ, ← he d h]
    split
    · rfl
    · exact foldl_congr (fun y hy b => by rw [paZ_congr he hc k y.1 n (hc d h y hy)]) 0
theorem ls_P (ho : openV r = 0) (hd : d ∈ nums r) {lt : List Int} (hlt : ltB r lt = true) : ∀ n, n ∈ nums (lsR r d) → ∀ y ∈ (tkV r lt n).its, y.1 ∈ nums (lsR r d) := fun n hn y hy => by
  have hb := (ls_mem ho hd).1 hn
  exact (ls_mem ho hd).2 (bw_C ho hd hb (its_C (open_listed ho) hlt (bw_num ho hd hb) hy))
theorem ls_self (ho : openV r = 0) (hd : d ∈ nums r) : d ∈ nums (lsR r d) := (ls_mem ho hd).2 (bw_self r d)
theorem ls_tr (ho : openV r = 0) (hd : d ∈ nums r) {lt : List Int} (hlt : ltB r lt = true) : trE (lsR r d) ((nums (lsR r d)).map (ltOf r lt)) d = trE r lt d := by
  have hs := ls_self ho hd
  have e := fun k dep c => tr_congr (T := tkV r lt) (T' := tkV (lsR r d) ((nums (lsR r d)).map (ltOf r lt))) (P := fun n => n ∈ nums (lsR r d)) (fun n hn => (ls_tk ho hd hn).symm) (ls_P ho hd hlt) k dep d c hs
  unfold trE
  rw [if_pos (ask_ok (ls_open ho hd) (ls_ltB ho hd hlt) hs), if_pos (ask_ok ho hlt hd), ← trV_brN (T := tkV r lt) 6 0 d 1, ← trV_brN 6 0 d 1, e]
theorem ls_ex (ho : openV r = 0) (hd : d ∈ nums r) {lt : List Int} (hlt : ltB r lt = true) : pzN (lsR r d) ((nums (lsR r d)).map (ltOf r lt)) d = pzN r lt d := by
  have hs := ls_self ho hd
  have e : paZ (tkV (lsR r d) ((nums (lsR r d)).map (ltOf r lt))) 6 d = paZ (tkV r lt) 6 d := by
    funext n
    exact (paZ_congr (T := tkV r lt) (T' := tkV (lsR r d) ((nums (lsR r d)).map (ltOf r lt))) (P := fun n => n ∈ nums (lsR r d)) (fun n hn => (ls_tk ho hd hn).symm) (ls_P ho hd hlt) 6 d n hs).symm
  have hin := fun n => paZ_in (ls_open ho hd) (ls_ltB ho hd hlt) 6 d n hs
  rw [e] at hin
  rw [pzN, pzN, e, ptN, ptN, List.take_length, List.take_length, ls_nums ho hd, List.filter_filter]
  congr 1
  refine List.filter_congr fun n _ => ?_
  by_cases h : 0 < paZ (tkV r lt) 6 d n
  · have := (ls_mem ho hd).1 (hin n (by omega)).1
    simp [h, this]
  · simp [h]
end
end Go.Proofs.YtdpmioiamcgfkaaDoor

/-! The abstract machine's code of functions of the program, as a program of ours printed it; that it is theirs is proved beside each. -/
namespace Go.Proofs.YtdpmioiamcgfkaaDoor
open Go.RowKit

end Go.Proofs.YtdpmioiamcgfkaaDoor

/-! Ranges of issues change places. -/
namespace Go.Proofs.YtdpmioiamcgfkaaDoor
open Go.RowKit

section
variable {G : Nat → Option (List AV)}

end
end Go.Proofs.YtdpmioiamcgfkaaDoor

/-! Two neighbouring ranges of issues change places. -/
namespace Go.Proofs.YtdpmioiamcgfkaaDoor
open Go.RowKit

section
variable {G : Nat → Option (List AV)}

end
end Go.Proofs.YtdpmioiamcgfkaaDoor

/-! Two ranges in order put together: plain. -/
namespace Go.Proofs.YtdpmioiamcgfkaaDoor
open Go.RowKit

end Go.Proofs.YtdpmioiamcgfkaaDoor

/-! One issue ahead of a range in order is put in. -/
namespace Go.Proofs.YtdpmioiamcgfkaaDoor
open Go.RowKit

end Go.Proofs.YtdpmioiamcgfkaaDoor

/-! symMerge where one of the ranges is a single issue. -/
namespace Go.Proofs.YtdpmioiamcgfkaaDoor
open Go.RowKit

section
variable {G : Nat → Option (List AV)}

end
end Go.Proofs.YtdpmioiamcgfkaaDoor

/-! symMerge where the second range is a single issue. -/
namespace Go.Proofs.YtdpmioiamcgfkaaDoor
open Go.RowKit

section
variable {G : Nat → Option (List AV)}

end
end Go.Proofs.YtdpmioiamcgfkaaDoor

/-! symMerge: what a step of it does, plain. -/
namespace Go.Proofs.YtdpmioiamcgfkaaDoor
open Go.RowKit

end Go.Proofs.YtdpmioiamcgfkaaDoor

/-! What sorting ranges keeps. -/
namespace Go.Proofs.YtdpmioiamcgfkaaDoor
open Go.RowKit

end Go.Proofs.YtdpmioiamcgfkaaDoor

/-! symMerge, by the abstract machine. -/
namespace Go.Proofs.YtdpmioiamcgfkaaDoor
open Go.RowKit
section
variable {G : Nat → Option (List AV)}

end
end Go.Proofs.YtdpmioiamcgfkaaDoor
