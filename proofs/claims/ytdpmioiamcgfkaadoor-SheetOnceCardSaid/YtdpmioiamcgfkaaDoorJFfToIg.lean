/-
  Parts: what the program's Explode computes, as a whole.
-/
import Derived.Test.YtdpmioiamcgfkaaDoorJEfToGf
import Derived.Test.YtdpmioiamcgfkaaDoorJAmOToMath
import Derived.Test.YtdpmioiamcgfkaaDoorProg
import Derived.Test.YtdpmioiamcgfkaaDoorJOpenToOpen
import Derived.Test.YtdpmioiamcgfkaaDoorJRowToRow
import Derived.Test.YtdpmioiamcgfkaaDoorJRcLToRcB
import Derived.Test.YtdpmioiamcgfkaaDoorJHaToHa
import Derived.Test.YtdpmioiamcgfkaaDoorJRcAToEe
set_option linter.unusedSimpArgs false
set_option linter.unusedVariables false
namespace Go.Proofs.YtdpmioiamcgfkaaDoor
open Go.RowKit

/-- The state of the loop over the drawings. -/
def ptP (r : List Iss) (l : List (Int × Int)) (i : Nat) : St := if ptN (nums r) (mpG l) i = [] then ⟨[(37, .int .i64 i), (36, .int .i64 (nums r).length), (35, .vsl ((nums r).map ia)), (11, .ptr 11 0), (13, .nils)], [(11, .box [.mp 27]), (27, .mp (dpA l))]⟩
  else ⟨[(37, .int .i64 i), (36, .int .i64 (nums r).length), (35, .vsl ((nums r).map ia)), (11, .ptr 11 0), (13, .osl 52 (ptN (nums r) (mpG l) i).length)], [(11, .box [.mp 27]), (27, .mp (dpA l)), (52, .row 2 ((ptN (nums r) (mpG l) i).map ita))]⟩

section
variable {G : Nat → Option (List AV)}

theorem explP_pc (hG : GC G) (r : List Iss) (lt : List Int) (n : Int) (h : Wf r) : PC Tryd.prog G 33 [rega r, .vsl (lt.map ia), .int .i64 n] (.tup [.vsl ((exV r lt n).1.map ita), .int .i64 (exV r lt n).2]) := by
  by_cases e : askV r lt n = 0
  case neg =>
    refine PC.nzR (v := .tup [.nils, .int .i64 (askV r lt n)]) ?_ (by simp [nz, exV, e])
    (refine pc_sheet_Explode (Nat.le_of_ble_eq_true rfl) fun R hG hrd => GO_AR mixed 1000 ?_; subst hG)
    simp -implicitDefEqProofs [rc_sheet_Explode, rr_sheet_Explode, rega]
    (first | refine CallK.of (taken_pc hG r lt n h) (by simp) ?_ | refine CallD.of (taken_pc hG r lt n h) (by simp) ?_)
    simp -implicitDefEqProofs [takA, e]
  obtain ⟨ho, hlt, hn⟩ := ask_0 e
  have hL := open_listed ho
  have hl := listed_20 hL
  have hp := add_pb (G := G) r lt ho hlt 6 n 1 [] hn (dpN_bd ho hn).2
  have hm := paM_eq (T := tkV r lt) (D := nums r) (fun d hd => let q := iss_kind (listed_iss hL (tk_mem hL hlt hd).1); ⟨q.1, q.2.2.2⟩) (fun d hd => tk_its hL hlt hd) 6 n 1 [] hn
  have e0 : mpG [] = fun _ => 0 := by funext x; rfl
  have ev : exV r lt n = (ptN (nums r) (mpG (paM (tkV r lt) 6 n 1 [])) (nums r).length, 0) := by rw [exV, if_pos e, hm, e0]
  rw [ev]
  generalize paM (tkV r lt) 6 n 1 [] = l at *
  refine PC.nzR (v := .tup [if ptN (nums r) (mpG l) (nums r).length = [] then .nils else .vsl ((ptN (nums r) (mpG l) (nums r).length).map ita), .int .i64 0]) ?_ (by split <;> simp_all [nz])
  (refine pc_sheet_Explode (Nat.le_of_ble_eq_true rfl) fun R hG hrd => GO_AR mixed 1000 ?_; subst hG)
  simp -implicitDefEqProofs [rc_sheet_Explode, rr_sheet_Explode, rega]
  (first | refine CallK.of (taken_pc hG r lt n h) (by simp) ?_ | refine CallD.of (taken_pc hG r lt n h) (by simp) ?_)
  simp -implicitDefEqProofs [takA, e, one_byA]
  unfold byA
  simp -implicitDefEqProofs []
  refine CallK.sem (CallSem.byref hp (fun k => k - 1000) (by simp [exO]) (by simp [exO]) (by simp [exO, St.get, lk, ren_dpA, AObj.ren, AV.ren, ren_byA, map_dpA, byA]; try simp [dpA]) (exO_in _ _ _) (by simp [exO, keptA, AV.keys, lk]) rfl (by simp [AV.ren]) rfl rfl) ?_
  simp -implicitDefEqProofs [setsB, exO, ren_dpA, AObj.ren, AV.ren, ren_byA, map_dpA, bkA]
  refine AR_for (ptP r l) (fun _ => True) (nums r).length ?_ trivial ?_ ?_
  · have e0 : ptN (nums r) (mpG l) 0 = [] := rfl
    simp only [ptP, e0, if_true]
    ((try simp only [byA]); refine Weak.sub (by simp [lk, keptA, AV.keys, byA]) ?_; simp only [byA, List.cons_append, List.nil_append, List.mem_cons, List.not_mem_nil, or_false, forall_eq_or_imp, forall_eq, kept_dpA, and_true]; (try simp [lk, keptO, keptA, AV.keys, byA]))
  · intro i hi _
    refine GO_AR mixed 1000 ?_
    have w1 : IntKind.i64.wrap ((i : Int) + 1) = ((i + 1 : Nat) : Int) := wrapI (by omega) (by omega)
    have gd := get_dp (nums r)[i] l
    have hs := ptN_succ (g := mpG l) hi
    have bl := ptN_len (nums r) (mpG l) i
    have bb : ((ptN (nums r) (mpG l) i).length + 1) * 16 ≤ 70368744177664 := by omega
    by_cases c : 0 < mpG l (nums r)[i]
    · have q : dpLk (nums r)[i] l = some (mpG l (nums r)[i]) := by
        unfold mpG dpG at c ⊢
        cases q : dpLk (nums r)[i] l <;> simp_all
      rw [q] at gd
      rw [if_pos c] at hs
      by_cases e : ptN (nums r) (mpG l) i = []
      · rw [e] at hs
        simp -implicitDefEqProofs [ptP, e, hi, ia, gd, c, w1, hs]
        ((try simp only [ita]); refine Weak.sub (by simp [lk, keptA, AV.keys, ita]) ?_; simp only [ita, List.cons_append, List.nil_append, List.mem_cons, List.not_mem_nil, or_false, forall_eq_or_imp, forall_eq, kept_dpA, ita_kept, and_true]; (try simp [lk, keptO, keptA, AV.keys, ita]))
      · simp -implicitDefEqProofs [ptP, e, hi, ia, gd, c, w1, hs, bb]
        ((try simp only [ita]); refine Weak.sub (by simp [lk, keptA, AV.keys, ita]) ?_; simp only [ita, List.cons_append, List.nil_append, List.mem_cons, List.not_mem_nil, or_false, forall_eq_or_imp, forall_eq, kept_dpA, ita_kept, and_true]; (try simp [lk, keptO, keptA, AV.keys, ita]))
    · rw [if_neg c] at hs
      have q : (dpLk (nums r)[i] l).getD 0 = mpG l (nums r)[i] := rfl
      generalize dpLk (nums r)[i] l = o at gd q
      by_cases e : ptN (nums r) (mpG l) i = [] <;> cases o
      · rw [e] at hs
        simp -implicitDefEqProofs [ptP, e, hi, ia, gd, w1, hs]
        ((try simp only [ita]); refine Weak.sub (by simp [lk, keptA, AV.keys, ita]) ?_; simp only [ita, List.cons_append, List.nil_append, List.mem_cons, List.not_mem_nil, or_false, forall_eq_or_imp, forall_eq, kept_dpA, ita_kept, and_true]; (try simp [lk, keptO, keptA, AV.keys, ita]))
      · rw [e] at hs
        obtain rfl : _ = mpG l (nums r)[i] := q
        simp -implicitDefEqProofs [ptP, e, hi, ia, gd, c, w1, hs]
        ((try simp only [ita]); refine Weak.sub (by simp [lk, keptA, AV.keys, ita]) ?_; simp only [ita, List.cons_append, List.nil_append, List.mem_cons, List.not_mem_nil, or_false, forall_eq_or_imp, forall_eq, kept_dpA, ita_kept, and_true]; (try simp [lk, keptO, keptA, AV.keys, ita]))
      · simp -implicitDefEqProofs [ptP, e, hi, ia, gd, w1, hs]
        ((try simp only [ita]); refine Weak.sub (by simp [lk, keptA, AV.keys, ita]) ?_; simp only [ita, List.cons_append, List.nil_append, List.mem_cons, List.not_mem_nil, or_false, forall_eq_or_imp, forall_eq, kept_dpA, ita_kept, and_true]; (try simp [lk, keptO, keptA, AV.keys, ita]))
      · obtain rfl : _ = mpG l (nums r)[i] := q
        simp -implicitDefEqProofs [ptP, e, hi, ia, gd, c, w1, hs]
        ((try simp only [ita]); refine Weak.sub (by simp [lk, keptA, AV.keys, ita]) ?_; simp only [ita, List.cons_append, List.nil_append, List.mem_cons, List.not_mem_nil, or_false, forall_eq_or_imp, forall_eq, kept_dpA, ita_kept, and_true]; (try simp [lk, keptO, keptA, AV.keys, ita]))
  · intro _
    refine GO_AR mixed 1000 ?_
    by_cases e : ptN (nums r) (mpG l) (nums r).length = []
    · simp -implicitDefEqProofs [ptP, e]
      refine GO_ret mixed 1000 ?_
      simp -implicitDefEqProofs [e]
    · have pu : ((ptN (nums r) (mpG l) (nums r).length).map ita).all (fun r => r.all AV.pure) = true := by simp [ita, AV.pure]
      simp -implicitDefEqProofs [ptP, e]
      refine GO_ret mixed 1000 ?_
      simp -implicitDefEqProofs [e, pu]
end
end Go.Proofs.YtdpmioiamcgfkaaDoor

/-! Trees: what the program's Tree computes. -/
namespace Go.Proofs.YtdpmioiamcgfkaaDoor
open Go.RowKit

theorem map_bra (ρ : Nat → Nat) (l : List Brn) : (l.map bra).map (fun r => r.map (AV.ren ρ)) = l.map bra := by
  simp only [List.map_map]
  congr 1; funext p; simp [bra, AV.ren]
theorem map_bra1 (ρ : Nat → Nat) (a : Brn) : (bra a).map (AV.ren ρ) = bra a := by simp [bra, AV.ren]
theorem comp_bra (ρ : Nat → Nat) : ((fun r : List AV => r.map (AV.ren ρ)) ∘ bra) = bra := by funext a; exact map_bra1 ρ a
theorem frz_bra (ok : Nat → Bool) (st : St) (l : List Brn) : frzO ok st (.row 4 (l.map bra)) = .row 4 (l.map bra) := by
  simp only [frzO, List.map_map]
  congr 2; funext p; simp [bra, frzA, frz, AV.keys]
theorem frz_b4 (st : St) {ok : Nat → Bool} {k n : Nat} (h : ok k = false) : frzO ok st (.box [.osl k n]) = .box [.osl k n] := by simp [frzO, frzA, frz, h]

/-- What Tree's own function is handed. -/
def grO (K : Nat) (r : List Iss) (lt : List Int) (l : List Brn) : List (Nat × AObj) :=
  [(1009, .box [byA r lt]), (1011, .box [.osl K l.length]), (1012, .box [.func (.func 80) [] [.ptr 1011 0, .ptr 1009 0, .ptr 1012 0]]), (K, .row 4 (l.map bra))]
/-- The same, where nothing is there yet. -/
def grZ (r : List Iss) (lt : List Int) : List (Nat × AObj) :=
  [(1009, .box [byA r lt]), (1011, .box [.nils]), (1012, .box [.func (.func 80) [] [.ptr 1011 0, .ptr 1009 0, .ptr 1012 0]])]
def grS (K : Nat) (r : List Iss) (lt : List Int) (dep : Int) (x : Iss) (l : List Brn) (i : Nat) : St := ⟨[(31, .int .i64 i), (30, .int .i64 x.its.length), (29, .vsl (x.its.map ita)), (0, .int .i64 dep), (4, .ptr 1012 0)], grO K r lt l⟩
theorem grO_in (r : List Iss) (lt : List Int) (l : List Brn) : ∀ p ∈ grO 1027 r lt l, keptO (grO 1027 r lt l) p.2 = true := by
  simp only [grO, List.mem_cons, List.not_mem_nil, or_false, forall_eq_or_imp, forall_eq, bra_kept, and_true]
  simp [lk, keptO, keptA, AV.keys, keys_byA]
theorem grZ_in (r : List Iss) (lt : List Int) : ∀ p ∈ grZ r lt, keptO (grZ r lt) p.2 = true := by
  simp only [grZ, List.mem_cons, List.not_mem_nil, or_false, forall_eq_or_imp, forall_eq]
  simp [lk, keptO, keptA, AV.keys, keys_byA]

section
variable {G : Nat → Option (List AV)}

theorem grow_pb (r : List Iss) (lt : List Int) (ho : openV r = 0) (hlt : ltB r lt = true) : ∀ (k : Nat) (n dep c : Int) (l : List Brn), n ∈ nums r → dpN r n ≤ k → 0 ≤ dep → dep + k ≤ 1000 → l.length ≤ 501 →
    PB Tryd.prog G 80 (grO 1027 r lt l) [.int .i64 dep, .agg [.int .i64 n, .int .i64 c], .ptr 1011 0, .ptr 1009 0, .ptr 1012 0] (.tup []) (grO 1027 r lt (grV (tkV r lt) k dep n c l))
  | 0, n, _, _, _, hn, hd, _, _, _ => (dp_pos ho hn hd).elim
  | k + 1, n, dep, c, l, hn, hd, hd0, hd1, h5 => by
    have hL := open_listed ho
    have wd : IntKind.i64.wrap (dep + 1) = dep + 1 := wrapI (by omega) (by omega)
    have hrec := fun y (hy : y ∈ (tkV r lt n).its) => fun l h5 => grow_pb r lt ho hlt k y.1 (dep + 1) y.2 l (dp_its ho hlt hn hd hy).1 (dp_its ho hlt hn hd hy).2 (by omega) (by omega) h5
    have gb := get_mp isA n (byN r lt (nums r).length)
    rw [byN_get hn] at gb
    have h8 := tk_8 ho hlt n hn
    have hxd := (tk_mem hL hlt hn).2
    rw [grV]
    by_cases c5 : 500 < l.length
    · have c5' : (500 : Int) < l.length := by omega
      rw [if_pos c5]
      (refine pb_sheet_Tree_1 (Nat.le_of_ble_eq_true rfl) fun R hG hrd => GO_AR mixed 1000 ?_; subst hG)
      simp -implicitDefEqProofs [rc_sheet_Tree_1, rr_sheet_Tree_1, grO, c5', FinB, frzSt, newK, frz_bra, frz_b1, frz_b4, frz_b3]
    have c5' : ¬ (500 : Int) < l.length := by omega
    rw [if_neg c5]
    generalize tkV r lt n = x at *
    subst hxd
    obtain ⟨l1, hl1⟩ : ∃ l1, l1 = l ++ [⟨dep, x.d, x.l, c⟩] := ⟨_, rfl⟩
    have hl1m : l1.map bra = l.map bra ++ [[.int .i64 dep, .int .i64 x.d, .int .i64 x.l, .int .i64 c]] := by rw [hl1, List.map_append]; rfl
    have hl1l : l1.length = l.length + 1 := by rw [hl1]; simp
    have b5 : (l.length + 1) * 32 ≤ 70368744177664 := by omega
    rw [← hl1]
    have fl5 : ∀ (its : List (Int × Int)) (l : List Brn), l.length ≤ 501 → (its.foldl (fun l y => grV (tkV r lt) k (dep + 1) y.1 y.2 l) l).length ≤ 501 := by
      intro its
      induction its with
      | nil => intro l h; exact h
      | cons y its ih => intro l h; exact ih _ (grV_501 k _ _ _ _ h)
    (refine pb_sheet_Tree_1 (Nat.le_of_ble_eq_true rfl) fun R hG hrd => GO_AR mixed 1000 ?_; subst hG)
    have key : ∀ (st : St), Weak st (grS 1027 r lt dep x l1 0) → AR Tryd.prog R (lastLp rc_sheet_Tree_1) st (RetP Tryd.prog R [KF.bk 0] (FinB [] (.tup []) (grO 1027 r lt (x.its.foldl (fun l y => grV (tkV r lt) k (dep + 1) y.1 y.2 l) l1)))) := by
      intro st hw
      refine AR_for (fun i => grS 1027 r lt dep x ((x.its.take i).foldl (fun l y => grV (tkV r lt) k (dep + 1) y.1 y.2 l) l1) i) (fun _ => True) x.its.length (by simpa using hw) trivial ?_ ?_
      · intro i hi _
        refine GO_AR mixed 1000 ?_
        have w1 : IntKind.i64.wrap ((i : Int) + 1) = ((i + 1 : Nat) : Int) := wrapI (by omega) (by omega)
        have ft := fold_take (fun l (y : Int × Int) => grV (tkV r lt) k (dep + 1) y.1 y.2 l) l1 x.its i hi
        have hr := hrec x.its[i] (List.getElem_mem hi) ((x.its.take i).foldl (fun l y => grV (tkV r lt) k (dep + 1) y.1 y.2 l) l1) (fl5 _ _ (by omega))
        generalize (x.its.take i).foldl (fun l y => grV (tkV r lt) k (dep + 1) y.1 y.2 l) l1 = l2 at *
        simp -implicitDefEqProofs [lastLp, rc_sheet_Tree_1, grS, grO, hi, ita, wd]
        refine CallK.sem (CallSem.byref hr id (by simp [grO]) (by simp [grO]) (by simp [grO, St.get, lk, AObj.ren, AV.ren, ren_byA, map_bra, map_bra1]) (grO_in _ _ _) (by simp [grO, keptA, AV.keys, lk]) rfl (by simp [AV.ren]) rfl rfl) ?_
        simp -implicitDefEqProofs [setsB, grO, AObj.ren, AV.ren, ren_byA, map_bra, map_bra1, w1]
        ((try simp only [grS, grO, byA, ft, map_bra1]); refine Weak.sub (by simp [lk, keptA, AV.keys, grS, grO, byA, ft, map_bra1]) ?_; simp only [grS, grO, byA, ft, map_bra1, List.cons_append, List.nil_append, List.mem_cons, List.not_mem_nil, or_false, forall_eq_or_imp, forall_eq, bra_kept, and_true]; (try simp [lk, keptO, keptA, AV.keys, grS, grO, byA, ft, map_bra1]))
      · intro _
        refine GO_AR mixed 1000 ?_
        simp -implicitDefEqProofs [lastLp, rc_sheet_Tree_1, grS, grO]
        refine GO_ret mixed 1000 ?_
        simp -implicitDefEqProofs [FinB, frzSt, newK, frz_bra, frz_b1, frz_b4, frz_b3, grO]
    simp -implicitDefEqProofs [rc_sheet_Tree_1, rr_sheet_Tree_1, grO, byA, gb, isA, isa, c5', b5]
    exact key _ (by simp only [← hl1m]; ((try simp only [grS, grO, byA, hl1l]); refine Weak.sub (by simp [lk, keptA, AV.keys, grS, grO, byA, hl1l]) ?_; simp only [grS, grO, byA, hl1l, List.cons_append, List.nil_append, List.mem_cons, List.not_mem_nil, or_false, forall_eq_or_imp, forall_eq, bra_kept, and_true]; (try simp [lk, keptO, keptA, AV.keys, grS, grO, byA, hl1l])))

/-- What stays at the end of Tree's own function, where the list has begun. -/
def okT : Nat → Bool := fun k => decide (k < 1000) && decide (k ≠ 27)
theorem grow0_pb (r : List Iss) (lt : List Int) (ho : openV r = 0) (hlt : ltB r lt = true) (k : Nat) (n dep c : Int) (hn : n ∈ nums r) (hd : dpN r n ≤ k + 1) (hd0 : 0 ≤ dep) (hd1 : dep + (k + 1 : Nat) ≤ 1000) :
    PB Tryd.prog G 80 (grZ r lt) [.int .i64 dep, .agg [.int .i64 n, .int .i64 c], .ptr 1011 0, .ptr 1009 0, .ptr 1012 0] (.tup []) (grO 27 r lt (grV (tkV r lt) (k + 1) dep n c [])) := by
  have hL := open_listed ho
  have wd : IntKind.i64.wrap (dep + 1) = dep + 1 := wrapI (by omega) (by omega)
  have hrec := fun y (hy : y ∈ (tkV r lt n).its) => fun l h5 => grow_pb (G := G) r lt ho hlt k y.1 (dep + 1) y.2 l (dp_its ho hlt hn hd hy).1 (dp_its ho hlt hn hd hy).2 (by omega) (by omega) h5
  have gb := get_mp isA n (byN r lt (nums r).length)
  rw [byN_get hn] at gb
  have h8 := tk_8 ho hlt n hn
  have hxd := (tk_mem hL hlt hn).2
  rw [grV, if_neg (by simp), List.nil_append]
  generalize tkV r lt n = x at *
  subst hxd
  obtain ⟨l1, hl1⟩ : ∃ l1 : List Brn, l1 = [⟨dep, x.d, x.l, c⟩] := ⟨_, rfl⟩
  have hl1m : l1.map bra = [[.int .i64 dep, .int .i64 x.d, .int .i64 x.l, .int .i64 c]] := by rw [hl1]; rfl
  have hl1l : l1.length = 1 := by rw [hl1]; simp
  rw [← hl1]
  have fl5 : ∀ (its : List (Int × Int)) (l : List Brn), l.length ≤ 501 → (its.foldl (fun l y => grV (tkV r lt) k (dep + 1) y.1 y.2 l) l).length ≤ 501 := by
    intro its
    induction its with
    | nil => intro l h; exact h
    | cons y its ih => intro l h; exact ih _ (grV_501 k _ _ _ _ h)
  refine PBo_of okT (by intro k hk; simp [okT] at hk; omega) Tryd.func80 rfl (by kernel_rfl) (rc := rc_sheet_Tree_1) (by kernel_rfl) (rs := rr_sheet_Tree_1) (by kernel_rfl) (Nat.le_of_ble_eq_true rfl) fun R _ hG hrd => GO_AR mixed 1000 ?_
  subst hG
  have key : ∀ (st : St), Weak st (grS 27 r lt dep x l1 0) → AR Tryd.prog R (lastLp rc_sheet_Tree_1) st (RetP Tryd.prog R [KF.bk 0] (FinO okT [] (.tup []) (grO 27 r lt (x.its.foldl (fun l y => grV (tkV r lt) k (dep + 1) y.1 y.2 l) l1)))) := by
    intro st hw
    refine AR_for (fun i => grS 27 r lt dep x ((x.its.take i).foldl (fun l y => grV (tkV r lt) k (dep + 1) y.1 y.2 l) l1) i) (fun _ => True) x.its.length (by simpa using hw) trivial ?_ ?_
    · intro i hi _
      refine GO_AR mixed 1000 ?_
      have w1 : IntKind.i64.wrap ((i : Int) + 1) = ((i + 1 : Nat) : Int) := wrapI (by omega) (by omega)
      have ft := fold_take (fun l (y : Int × Int) => grV (tkV r lt) k (dep + 1) y.1 y.2 l) l1 x.its i hi
      have hr := hrec x.its[i] (List.getElem_mem hi) ((x.its.take i).foldl (fun l y => grV (tkV r lt) k (dep + 1) y.1 y.2 l) l1) (fl5 _ _ (by omega))
      generalize (x.its.take i).foldl (fun l y => grV (tkV r lt) k (dep + 1) y.1 y.2 l) l1 = l2 at *
      simp -implicitDefEqProofs [lastLp, rc_sheet_Tree_1, grS, grO, hi, ita, wd]
      refine CallK.sem (CallSem.byref hr (fun k => if k = 1027 then 27 else k) (by simp [grO]) (by simp [grO]) (by simp [grO, St.get, lk, AObj.ren, AV.ren, ren_byA, map_bra, map_bra1]) (grO_in _ _ _) (by simp [grO, keptA, AV.keys, lk]) rfl (by simp [AV.ren]) rfl rfl) ?_
      simp -implicitDefEqProofs [setsB, grO, AObj.ren, AV.ren, ren_byA, map_bra, map_bra1, w1]
      ((try simp only [grS, grO, byA, ft, map_bra1]); refine Weak.sub (by simp [lk, keptA, AV.keys, grS, grO, byA, ft, map_bra1]) ?_; simp only [grS, grO, byA, ft, map_bra1, List.cons_append, List.nil_append, List.mem_cons, List.not_mem_nil, or_false, forall_eq_or_imp, forall_eq, bra_kept, and_true]; (try simp [lk, keptO, keptA, AV.keys, grS, grO, byA, ft, map_bra1]))
    · intro _
      refine GO_AR mixed 1000 ?_
      simp -implicitDefEqProofs [lastLp, rc_sheet_Tree_1, grS, grO]
      refine GO_ret mixed 1000 ?_
      simp -implicitDefEqProofs [FinO, frzSt, okT, frz_bra, frz_b1, frz_b4, frz_b3, grO]
  simp -implicitDefEqProofs [rc_sheet_Tree_1, rr_sheet_Tree_1, grZ, byA, gb, isA, isa]
  exact key _ (by simp only [← hl1m]; ((try simp only [grS, grO, byA, hl1l]); refine Weak.sub (by simp [lk, keptA, AV.keys, grS, grO, byA, hl1l]) ?_; simp only [grS, grO, byA, hl1l, List.cons_append, List.nil_append, List.mem_cons, List.not_mem_nil, or_false, forall_eq_or_imp, forall_eq, bra_kept, and_true]; (try simp [lk, keptO, keptA, AV.keys, grS, grO, byA, hl1l])))

theorem treeP_pc (hG : GC G) (r : List Iss) (lt : List Int) (n : Int) (h : Wf r) : PC Tryd.prog G 35 [rega r, .vsl (lt.map ia), .int .i64 n] (.tup [.vsl ((trE r lt n).1.map bra), .int .i64 (trE r lt n).2]) := by
  by_cases e : askV r lt n = 0
  case neg =>
    refine PC.nzR (v := .tup [.nils, .int .i64 (askV r lt n)]) ?_ (by simp [nz, trE, e])
    (refine pc_sheet_Tree (Nat.le_of_ble_eq_true rfl) fun R hG hrd => GO_AR mixed 1000 ?_; subst hG)
    simp -implicitDefEqProofs [rc_sheet_Tree, rr_sheet_Tree, rega]
    (first | refine CallK.of (taken_pc hG r lt n h) (by simp) ?_ | refine CallD.of (taken_pc hG r lt n h) (by simp) ?_)
    simp -implicitDefEqProofs [takA, e]
  obtain ⟨ho, hlt, hn⟩ := ask_0 e
  have hp := grow0_pb (G := G) r lt ho hlt 5 n 0 1 hn (dpN_bd ho hn).2 (Int.le_refl _) (by omega)
  obtain ⟨g1, g2⟩ := grV_eq (T := tkV r lt) 6 0 n 1 []
  have g3 := trV_brN (T := tkV r lt) 6 0 n 1
  rw [List.nil_append, g3] at g1 g2
  by_cases c : 500 < brN (tkV r lt) 6 n
  · have c' := g2 c
    refine PC.nzR (v := .tup [.nils, .int .i64 4]) ?_ (by simp [nz, trE, e, c])
    generalize grV (tkV r lt) 6 0 n 1 [] = l at *
    have c2 : (500 : Int) < l.length := by omega
    (refine pc_sheet_Tree (Nat.le_of_ble_eq_true rfl) fun R hG hrd => GO_AR mixed 1000 ?_; subst hG)
    simp -implicitDefEqProofs [rc_sheet_Tree, rr_sheet_Tree, rega]
    (first | refine CallK.of (taken_pc hG r lt n h) (by simp) ?_ | refine CallD.of (taken_pc hG r lt n h) (by simp) ?_)
    simp -implicitDefEqProofs [takA, e, one_byA]
    unfold byA
    simp -implicitDefEqProofs []
    refine CallK.sem (CallSem.refn hp (fun k => if 1000 ≤ k then k - 1000 else k) (by simp [grZ]) (by simp [grO]) (by simp [grZ, St.get, lk, AObj.ren, AV.ren, ren_byA, byA]) (grZ_in _ _) (by simp [grZ, keptA, AV.keys, lk]) (by simp [grZ, grO, isK, lk]) (by simp [grZ, grO, isK, lk, St.get]) (by simp [AV.ren]) rfl rfl) ?_
    simp -implicitDefEqProofs [setsB, grO, AObj.ren, AV.ren, ren_byA, map_bra, map_bra1, c2]
  · have c' := g1 (by omega)
    have ev : trE r lt n = (grV (tkV r lt) 6 0 n 1 [], 0) := by rw [trE, if_pos e, if_neg c, c']
    rw [ev]
    have lb : (grV (tkV r lt) 6 0 n 1 []).length ≤ 500 := by rw [c', g3]; omega
    generalize grV (tkV r lt) 6 0 n 1 [] = l at *
    have c2 : ¬ (500 : Int) < l.length := by omega
    have pu := (bra_all l).2.2
    (refine pc_sheet_Tree (Nat.le_of_ble_eq_true rfl) fun R hG hrd => GO_AR mixed 1000 ?_; subst hG)
    simp -implicitDefEqProofs [rc_sheet_Tree, rr_sheet_Tree, rega]
    (first | refine CallK.of (taken_pc hG r lt n h) (by simp) ?_ | refine CallD.of (taken_pc hG r lt n h) (by simp) ?_)
    simp -implicitDefEqProofs [takA, e, one_byA]
    unfold byA
    simp -implicitDefEqProofs []
    refine CallK.sem (CallSem.refn hp (fun k => if 1000 ≤ k then k - 1000 else k) (by simp [grZ]) (by simp [grO]) (by simp [grZ, St.get, lk, AObj.ren, AV.ren, ren_byA, byA]) (grZ_in _ _) (by simp [grZ, keptA, AV.keys, lk]) (by simp [grZ, grO, isK, lk]) (by simp [grZ, grO, isK, lk, St.get]) (by simp [AV.ren]) rfl rfl) ?_
    simp -implicitDefEqProofs [setsB, grO, AObj.ren, AV.ren, ren_byA, map_bra, map_bra1, comp_bra, c2, pu]
end
end Go.Proofs.YtdpmioiamcgfkaaDoor

/-! The abstract machine's code of functions of the program, as a program of ours printed it; that it is theirs is proved beside each. -/
namespace Go.Proofs.YtdpmioiamcgfkaaDoor
open Go.RowKit

end Go.Proofs.YtdpmioiamcgfkaaDoor

/-! The law SheetTells, by the abstract machine. -/
namespace Go.Proofs.YtdpmioiamcgfkaaDoor
open Go.RowKit

section
variable {G : Nat → Option (List AV)}

end
end Go.Proofs.YtdpmioiamcgfkaaDoor

/-! What the rows of layer 2 share: the list of checks as the rows list it; registers that came in. -/
namespace Go.Proofs.YtdpmioiamcgfkaaDoor
open Go.ChangeShapes Go.WideShapes Go.ChangeAt Go.WideMaps Go.WideElems Go.RowKit Go.Deep

theorem own : ownKnob Tryd.prog.godebug = none := by kernel_rfl
theorem laidOut : laidOutB Tryd.prog = true := by kernel_rfl
theorem gChecks : Tryd.prog.globalNamed "blueline/sheet.checks" = some 0 := by kernel_rfl
theorem tChecks : (Tryd.prog.globals[0]?).map (·.type) = some 159 := by kernel_rfl

/-- The rows' list of variables. -/
def laid2 : List (String × DataW Unit) := [("blueline/sheet.checks", Rows.laid_blueline_sheet_checks)]

/-- The door's own heap meets the condition. -/
theorem door_met (os : Os) (args : Array Value) : laidMetH Tryd.prog laid2 ((World.doorLaid Tryd.prog 41 os).forCall (fun _ _ => 0) ⟨#[], args, []⟩).memory :=
  laidMetH_of_parts3 (fuel := 8) (laidMet_of_run' 8 (by kernel_rfl) (by kernel_rfl)) (by kernel_rfl) (by kernel_rfl)

theorem cF : Tryd.prog.cellsOf 157 = 1 := by kernel_rfl
theorem checkC : Tryd.prog.cellsOf 158 = 1 := by kernel_rfl

/-- The block of the checks. -/
def ChkB (W : World) : Prop := ∃ t fr, W.heap[0]? = some (.cells #[.func (.func 157) #[] #[], .func (.func 158) #[] #[], .func (.func 159) #[] #[], .func (.func 160) #[] #[]] t fr)

theorem list4 {α : Type} {l : List α} (h : l.length = 4) : ∃ c0 c1 c2 c3, l = [c0, c1, c2, c3] := by
  match l, h with
  | [c0, c1, c2, c3], _ => exact ⟨c0, c1, c2, c3, rfl⟩

theorem cell_func {W : World} {fuel : Nat} {c : Value} {y : DataW (List UInt8) × List MemPlace} {b : UInt8} {s : List UInt8} {f0 : FuncId} (hone : ((List.range Tryd.prog.funcs.size).filter fun f => (Tryd.prog.funcs[f]?).any (·.name.toUTF8.data.toList == b :: s)) = [f0])
    (h : DataW.trod (funcToken Tryd.prog) Tryd.prog W 0 (fun _ => true) true fuel 158 [c] = some y) (hy : y.1 = .agg [.held (b :: s)]) : c = .func (.func f0) #[] #[] := by
  obtain ⟨y0, n, rfl, -, h0⟩ := trod_struct1 Tryd.underlying158 h
  simp only [List.drop_zero] at h0
  rw [cF] at h0
  simp only [DataW.agg.injEq, List.cons.injEq, and_true] at hy
  exact func_of_trod (q := y0.2) Tryd.underlying157 hone (by rw [← hy]; simpa using h0)

set_option maxRecDepth 100000 in
theorem of_laid {W : World} (h : laidMetH Tryd.prog laid2 W) : ChkB W := by
  obtain ⟨g, t, cs, fuel, p, hg, ht, hv, hd⟩ := h.funcs (List.mem_singleton.2 rfl)
  obtain rfl := Option.some.inj (gChecks.symm.trans hg)
  obtain rfl := Option.some.inj (tChecks.symm.trans ht)
  have hd' : DataW.trod (funcToken Tryd.prog) Tryd.prog W 0 (fun _ => true) true fuel 159 cs.toList = some (.agg [.agg [.held [98, 108, 117, 101, 108, 105, 110, 101, 47, 115, 104, 101, 101, 116, 46, 99, 104, 101, 99, 107, 115, 36, 49]], .agg [.held [98, 108, 117, 101, 108, 105, 110, 101, 47, 115, 104, 101, 101, 116, 46, 99, 104, 101, 99, 107, 115, 36, 50]], .agg [.held [98, 108, 117, 101, 108, 105, 110, 101, 47, 115, 104, 101, 101, 116, 46, 99, 104, 101, 99, 107, 115, 36, 51]], .agg [.held [98, 108, 117, 101, 108, 105, 110, 101, 47, 115, 104, 101, 101, 116, 46, 99, 104, 101, 99, 107, 115, 36, 52]]], p) := hd
  obtain ⟨xs, m, rfl, hx, hlen, hn, hel⟩ := DataW.trod_array Tryd.underlying159 hd'
  have hlen4 : cs.toList.length = 4 := hlen.trans (by kernel_rfl)
  obtain ⟨c0, c1, c2, c3, hcs⟩ := list4 hlen4
  rw [hcs] at hel
  have e0 := hel 0 (by decide)
  have e1 := hel 1 (by decide)
  have e2 := hel 2 (by decide)
  have e3 := hel 3 (by decide)
  rw [checkC] at e0 e1 e2 e3
  match xs, hn, hx, e0, e1, e2, e3 with
  | [x0, x1, x2, x3], _, hx, e0, e1, e2, e3 =>
    simp only [Prod.mk.injEq] at hx
    have hx := hx.1
    simp only [List.map_cons, List.map_nil, DataW.agg.injEq, List.cons.injEq] at hx
    obtain ⟨hx0, hx1, hx2, hx3, -⟩ := hx
    have g0 := cell_func (f0 := 157) (by kernel_rfl) e0 hx0.symm
    have g1 := cell_func (f0 := 158) (by kernel_rfl) e1 hx1.symm
    have g2 := cell_func (f0 := 159) (by kernel_rfl) e2 hx2.symm
    have g3 := cell_func (f0 := 160) (by kernel_rfl) e3 hx3.symm
    have hcs2 : cs = #[c0, c1, c2, c3] := by rw [← Array.toArray_toList (xs := cs), hcs]
    rw [g0, g1, g2, g3] at hcs2
    simp only [World.var?, gChecks, Option.bind_some] at hv
    split at hv
    · rename_i cs' t fr heq
      injection hv with hv
      exact ⟨t, fr, by rw [heq, hv, hcs2]⟩
    · cases hv

/-- The program's variables that the walks look at. -/
def G2 : Nat → Option (List AV) := fun g => if g = 0 then some [.func (.func 157) [] [], .func (.func 158) [] [], .func (.func 159) [] [], .func (.func 160) [] []] else none
theorem gc_of : GC G2 := rfl
theorem gr_of {W : World} (h : ChkB W) : GR G2 noM W := by
  obtain ⟨t, fr, hb⟩ := h
  intro g cs hg
  simp only [G2] at hg
  split at hg <;> simp only [Option.some.injEq, reduceCtorEq] at hg
  rename_i e
  subst e; subst hg
  refine .vptr _ 0 0 0 (fun j => ((#[.func (.func 157) #[] #[], .func (.func 158) #[] #[], .func (.func 159) #[] #[], .func (.func 160) #[] #[]] : Array Value)[j]?).getD undef) (Array.getElem?_eq_some_iff.1 hb).1 id ?_ ?_
  · intro j hj
    have hj' : j < 4 := by simpa using hj
    simp only [World.cell?, hb]
    match j, hj' with
    | 0, _ => rfl
    | 1, _ => rfl
    | 2, _ => rfl
    | 3, _ => rfl
  · intro j x hx
    have hfn : ∀ fn : Fn, PV noM W (.func fn [] []) (.func fn #[] #[]) := fun fn => .func fn [] [] #[] #[] rfl rfl (by simp) (by simp)
    match j, hx with
    | 0, hx => cases hx; exact hfn _
    | 1, hx => cases hx; exact hfn _
    | 2, hx => cases hx; exact hfn _
    | 3, hx => cases hx; exact hfn _

/-- What a law's contract says of a call from outside. -/
theorem law_calls {P : Program} {G : Nat → Option (List AV)} {f : FuncId} {args : List AV} {W : World} {vs : Array Value} (h : PC P G f args (.bool true)) (hG : GR G noM W) (hs : vs.size = args.length)
    (hv : ∀ (i : Nat) (x : AV) (u : Value), args[i]? = some x → vs[i]? = some u → PV noM W x u) : Calls P f vs W fun e W' => e = .returned (.bool true) ∧ Ext W W' :=
  (h.2 noM W vs (fun _ h => h.elim) hG hs hv).mono fun e W' ⟨v, h1, h2, h3⟩ => by
    cases h2
    exact ⟨h1, h3⟩

/-! Registers that came in. -/
def itK : List TY := [.int .i64, .int .i64]
def dmK : List TY := [.int .i64, .int .i64, .int .i64]
def isK2 : List TY := [.int .i64, .int .i64, .int .u8, .sl itK, .sl dmK]
theorem pair_inv {xs : List AV} (h : TVs itK xs) : ∃ p : Int × Int, xs = ita p := by
  obtain ⟨x0, _, rfl, h0, h⟩ := h.cons_inv
  obtain ⟨x1, _, rfl, h1, h⟩ := h.cons_inv
  obtain rfl := h.nil_inv
  obtain ⟨n, rfl, -⟩ := h0.int_inv
  obtain ⟨l, rfl, -⟩ := h1.int_inv
  exact ⟨(n, l), rfl⟩
theorem dm_inv {xs : List AV} (h : TVs dmK xs) : ∃ d : Dm, xs = dma d := by
  obtain ⟨x0, _, rfl, h0, h⟩ := h.cons_inv
  obtain ⟨x1, _, rfl, h1, h⟩ := h.cons_inv
  obtain ⟨x2, _, rfl, h2, h⟩ := h.cons_inv
  obtain rfl := h.nil_inv
  obtain ⟨n, rfl, -⟩ := h0.int_inv
  obtain ⟨l, rfl, -⟩ := h1.int_inv
  obtain ⟨u, rfl, -⟩ := h2.int_inv
  exact ⟨⟨n, l, u⟩, rfl⟩
def KOk (x : Iss) : Prop := 0 ≤ x.k ∧ x.k ≤ 255
theorem iss_inv {xs : List AV} (h : TVs isK2 xs) : ∃ x : Iss, xs = isa x ∧ KOk x := by
  obtain ⟨x0, _, rfl, h0, h⟩ := h.cons_inv
  obtain ⟨x1, _, rfl, h1, h⟩ := h.cons_inv
  obtain ⟨x2, _, rfl, h2, h⟩ := h.cons_inv
  obtain ⟨x3, _, rfl, h3, h⟩ := h.cons_inv
  obtain ⟨x4, _, rfl, h4, h⟩ := h.cons_inv
  obtain rfl := h.nil_inv
  obtain ⟨n, rfl, -⟩ := h0.int_inv
  obtain ⟨l, rfl, -⟩ := h1.int_inv
  obtain ⟨k, rfl, hk⟩ := h2.int_inv
  obtain ⟨r3, rfl, -, g3⟩ := h3.sl_inv
  obtain ⟨r4, rfl, -, g4⟩ := h4.sl_inv
  obtain ⟨its, rfl⟩ := rows_map (f := ita) fun r hr => pair_inv (g3 r hr)
  obtain ⟨dms, rfl⟩ := rows_map (f := dma) fun r hr => dm_inv (g4 r hr)
  exact ⟨⟨n, l, k, its, dms⟩, rfl, bounds_u8 hk⟩
theorem rows_mapP {α β : Type} {f : α → β} {p : α → Prop} {rows : List β} (h : ∀ r ∈ rows, ∃ d, r = f d ∧ p d) : ∃ l : List α, rows = l.map f ∧ ∀ x ∈ l, p x := by
  induction rows with
  | nil => exact ⟨[], rfl, by simp⟩
  | cons r rows ih =>
    obtain ⟨d, rfl, hd⟩ := h r (List.mem_cons_self ..)
    obtain ⟨l, rfl, hl⟩ := ih fun r hr => h r (List.mem_cons_of_mem _ hr)
    exact ⟨d :: l, rfl, fun x hx => by
      rcases List.mem_cons.1 hx with rfl | hx
      · exact hd
      · exact hl x hx⟩
theorem reg_inv {xs : List AV} (h : TVs [.sl isK2] xs) : ∃ r : List Iss, AV.agg xs = rega r ∧ ∀ x ∈ r, KOk x := by
  obtain ⟨x0, _, rfl, h0, h⟩ := h.cons_inv
  obtain rfl := h.nil_inv
  obtain ⟨rows, rfl, -, g⟩ := h0.sl_inv
  obtain ⟨r, rfl, hr⟩ := rows_mapP (f := isa) (p := KOk) fun r hr => iss_inv (g r hr)
  exact ⟨r, rfl, hr⟩

theorem greatA_pc {G : Nat → Option (List AV)} (r : List Iss) : PC Tryd.prog G 18 [rega r] (.bool (greatB r)) := by
  by_cases h1 : 80 < r.length
  · (refine pc_ref02_Great (Nat.le_of_ble_eq_true rfl) fun R hG hrd => GO_AR mixed 1000 ?_; subst hG)
    have h1' : (80 : Int) < r.length := by omega
    simp -implicitDefEqProofs [rc_ref02_Great, rr_ref02_Great, rega, h1', greatB, h1]
  · exact great_pc r (by unfold Sml; omega)
theorem great_wf {r : List Iss} (h : greatB r = false) (hk : ∀ x ∈ r, KOk x) : Wf r := by
  simp only [greatB, Bool.or_eq_false_iff, decide_eq_false_iff_not, List.any_eq_false, Bool.or_eq_true, decide_eq_true_eq, not_or] at h
  exact ⟨⟨by unfold Sml; omega, fun x hx => by have := h.2 x hx; unfold Sml; omega⟩, hk⟩
end Go.Proofs.YtdpmioiamcgfkaaDoor

/-! The law SheetParts, by the abstract machine. -/
namespace Go.Proofs.YtdpmioiamcgfkaaDoor
open Go.RowKit

section
variable {G : Nat → Option (List AV)}

end
end Go.Proofs.YtdpmioiamcgfkaaDoor

/-! The law SheetUses, by the abstract machine. -/
namespace Go.Proofs.YtdpmioiamcgfkaaDoor
open Go.RowKit

section
variable {G : Nat → Option (List AV)}

end
end Go.Proofs.YtdpmioiamcgfkaaDoor

/-! Names of issues compared, registers' issues one behind the other. -/
namespace Go.Proofs.YtdpmioiamcgfkaaDoor
open Go.RowKit

def okN (x : Iss) : Prop := 1 ≤ x.d ∧ x.d ≤ 9999 ∧ 1 ≤ x.l ∧ x.l ≤ 8
def cmpN (x y : Iss) : Int := if x.d - y.d = 0 then x.l - y.l else x.d - y.d

section
variable {G : Nat → Option (List AV)}

theorem or_pc (a b : Int) : PC Tryd.prog G 93 [.vsl [[.int .i64 a], [.int .i64 b]]] (.int .i64 (if a = 0 then b else a)) := by
  (refine pc_cmp_Or_int (Nat.le_of_ble_eq_true rfl) fun R hG hrd => GO_AR mixed 1000 ?_; subst hG)
  simp -implicitDefEqProofs [rc_cmp_Or_int, rr_cmp_Or_int]
  refine AR_for (fun i => ⟨[(8, .int .i64 i), (7, .int .i64 2), (6, .vsl [[.int .i64 a], [.int .i64 b]]), (3, .int .i64 0)], []⟩) (fun i => (0 < i → a = 0) ∧ (1 < i → b = 0)) 2 (by (first | exact Weak.tm (by simp [lk]) | exact Weak.sub (by simp [lk, keptA, AV.keys]) (by simp [lk, keptO, keptA, AV.keys]))) (by simp) ?_ ?_
  · intro i hi he
    refine GO_AR mixed 1000 ?_
    match i, hi, he with
    | 0, _, _ =>
      have w1 : IntKind.i64.wrap 1 = 1 := rfl
      by_cases h : a = 0
      · simp -implicitDefEqProofs [h, w1]
        (first | exact Weak.tm (by simp [lk]) | exact Weak.sub (by simp [lk, keptA, AV.keys]) (by simp [lk, keptO, keptA, AV.keys]))
      · simp -implicitDefEqProofs [h]
        refine GO_ret mixed 1000 ?_
        simp -implicitDefEqProofs [h]
    | 1, _, he =>
      have h0 := he.1 (by omega)
      have w1 : IntKind.i64.wrap 2 = 2 := rfl
      by_cases h : b = 0
      · simp -implicitDefEqProofs [h, w1]
        exact ⟨(by (first | exact Weak.tm (by simp [lk]) | exact Weak.sub (by simp [lk, keptA, AV.keys]) (by simp [lk, keptO, keptA, AV.keys]))), h0⟩
      · simp -implicitDefEqProofs [h]
        refine GO_ret mixed 1000 ?_
        simp -implicitDefEqProofs [h, h0]
  · rintro ⟨h0, h1⟩
    refine GO_AR mixed 1000 ?_
    have e0 := h0 (by omega)
    have e1 := h1 (by omega)
    simp -implicitDefEqProofs []
    refine GO_ret mixed 1000 ?_
    simp -implicitDefEqProofs [e0, e1]

theorem merge1_pc (x y : Iss) (hx : okN x) (hy : okN y) : PC Tryd.prog G 92 [.agg (isa x), .agg (isa y)] (.int .i64 (cmpN x y)) := by
  (refine pc_sheet_Merge_1 (Nat.le_of_ble_eq_true rfl) fun R hG hrd => GO_AR mixed 1000 ?_; subst hG)
  obtain ⟨x1, x2, x3, x4⟩ := hx
  obtain ⟨y1, y2, y3, y4⟩ := hy
  have w1 : IntKind.i64.wrap (x.d - y.d) = x.d - y.d := wrapI (by omega) (by omega)
  have w2 : IntKind.i64.wrap (x.l - y.l) = x.l - y.l := wrapI (by omega) (by omega)
  simp -implicitDefEqProofs [rc_sheet_Merge_1, rr_sheet_Merge_1, isa, w1, w2]
  (first | refine CallK.of (or_pc (x.d - y.d) (x.l - y.l)) (by simp) ?_ | refine CallD.of (or_pc (x.d - y.d) (x.l - y.l)) (by simp) ?_)
  simp -implicitDefEqProofs [cmpN]

theorem merge2_pc (x y : Iss) : PC Tryd.prog G 95 [.agg (isa x), .agg (isa y)] (.bool (decide (x.d = y.d ∧ x.l = y.l))) := by
  (refine pc_sheet_Merge_2 (Nat.le_of_ble_eq_true rfl) fun R hG hrd => GO_AR mixed 1000 ?_; subst hG)
  have e1 : isa x = [.int .i64 x.d, .int .i64 x.l, .int .u8 x.k, .vsl (x.its.map ita), .vsl (x.dms.map dma)] := rfl
  have e2 : isa y = [.int .i64 y.d, .int .i64 y.l, .int .u8 y.k, .vsl (y.its.map ita), .vsl (y.dms.map dma)] := rfl
  simp -implicitDefEqProofs [rc_sheet_Merge_2, rr_sheet_Merge_2, e1, e2]
  (first | refine CallK.of (name_pc x) (by simp) ?_ | refine CallD.of (name_pc x) (by simp) ?_)
  simp -implicitDefEqProofs []
  (first | refine CallK.of (name_pc y) (by simp) ?_ | refine CallD.of (name_pc y) (by simp) ?_)
  simp -implicitDefEqProofs []
  trace_state
  rfl

def ccA (a b : List Iss) : AV := .vsl [[.vsl (a.map isa)], [.vsl (b.map isa)]]
def ccR (a b : List Iss) (i : Nat) : List (List AV) := if i = 0 then [] else if i = 1 then a.map isa else (a ++ b).map isa
theorem isa_flat (l : List Iss) : (l.map isa).all (fun r => r.length == 5) = true := by simp [isa]
theorem isa_one (l : List Iss) : (l.map isa).all (fun r => r.all AV.one) = true := by simp [isa, AV.one]
theorem isa_pure (l : List Iss) : (l.map isa).all (fun r => r.all AV.pure) = true := by simp [isa, AV.pure]
theorem isa_kept (l : List Iss) (o : List (Nat × AObj)) : keptO o (.row 5 (l.map isa)) = true := by
  simp only [keptO, List.all_eq_true, List.mem_map]
  rintro x ⟨y, -, rfl⟩ v hv
  simp only [isa, List.mem_cons, List.not_mem_nil, or_false] at hv
  rcases hv with rfl | rfl | rfl | rfl | rfl <;> simp [keptA, AV.keys]
theorem concat_pc (a b : List Iss) (h0 : a ≠ []) (hb0 : b ≠ []) (ha : a.length ≤ 400) (hb : b.length ≤ 400) : PC Tryd.prog G 90 [ccA a b] (.vsl ((a ++ b).map isa)) := by
  (refine pc_slices_Concat_api_Issue_api_Issue (Nat.le_of_ble_eq_true rfl) fun R hG hrd => GO_AR mixed 1000 ?_; subst hG)
  simp -implicitDefEqProofs [rc_slices_Concat_api_Issue_api_Issue, rr_slices_Concat_api_Issue_api_Issue, ccA]
  refine AR_for (fun i => ⟨[(11, .int .i64 i), (10, .int .i64 2), (9, ccA a b), (0, ccA a b), (3, .int .i64 (if i = 0 then 0 else if i = 1 then a.length else a.length + b.length : Nat))], []⟩) (fun i => True) 2 (by simp only [ccA]; (first | exact Weak.tm (by simp [lk]) | exact Weak.sub (by simp [lk, keptA, AV.keys]) (by simp [lk, keptO, keptA, AV.keys]))) trivial ?_ ?_
  · intro i hi _
    refine GO_AR mixed 1000 ?_
    match i, hi with
    | 0, _ =>
      have w1 : IntKind.i64.wrap 1 = 1 := rfl
      have w2 : IntKind.i64.wrap (a.length : Int) = a.length := wrapI (by omega) (by omega)
      have k2 : ¬ (a.length : Int) < 0 := by omega
      simp -implicitDefEqProofs [ccA, w1, w2, k2]
      (first | exact Weak.tm (by simp [lk]) | exact Weak.sub (by simp [lk, keptA, AV.keys]) (by simp [lk, keptO, keptA, AV.keys]))
    | 1, _ =>
      have w1 : IntKind.i64.wrap 2 = 2 := rfl
      have w2 : IntKind.i64.wrap ((a.length : Int) + b.length) = ((a.length + b.length : Nat) : Int) := wrapI (by omega) (by omega)
      have k2 : ¬ ((a.length : Int) + b.length) < 0 := by omega
      simp -implicitDefEqProofs [ccA, w1, w2, k2]
      (first | exact Weak.tm (by simp [lk]) | exact Weak.sub (by simp [lk, keptA, AV.keys]) (by simp [lk, keptO, keptA, AV.keys]))
  · intro _
    refine GO_AR mixed 1000 ?_
    have hp : 0 < a.length := List.length_pos_iff.2 h0
    simp -implicitDefEqProofs [ccA]
    refine GO_ret mixed 1000 ?_
    have gp := grow_pn (G := R.G) (a.length + b.length) (by omega) (by omega)
    rw [Int.natCast_add] at gp
    simp -implicitDefEqProofs []
    refine CallNK.new gp (by simp [AV.pure]) (by rfl) ?_
    simp -implicitDefEqProofs []
    refine AR_for (fun i => ⟨[(27, .int .i64 i), (26, .int .i64 2), (25, ccA a b), (6, .osl 24 (ccR a b i).length)], [(24, .row 5 (ccR a b i))]⟩) (fun i => True) 2 (by simp only [ccA, ccR]; (first | exact Weak.tm (by simp [lk]) | exact Weak.sub (by simp [lk, keptA, AV.keys]) (by simp [lk, keptO, keptA, AV.keys]))) trivial ?_ ?_
    · intro i hi _
      refine GO_AR mixed 1000 ?_
      have f1 := isa_flat a
      have f2 := isa_flat b
      have o1 := isa_one a
      have o2 := isa_one b
      have p1 := isa_pure a
      have p2 := isa_pure b
      match i, hi with
      | 0, _ =>
        have w1 : IntKind.i64.wrap 1 = 1 := rfl
        have b1 : a.length * 72 ≤ 70368744177664 := by omega
        simp -implicitDefEqProofs [ccA, ccR, w1, b1, f1, o1, p1, h0]
        refine Weak.sub (by simp [lk, keptA, AV.keys]) ?_
        simp only [List.mem_cons, List.not_mem_nil, or_false, forall_eq_or_imp, forall_eq, isa_kept, and_true]
        simp [lk]
      | 1, _ =>
        have w1 : IntKind.i64.wrap 2 = 2 := rfl
        have b1 : (a.length + b.length) * 72 ≤ 70368744177664 := by omega
        simp -implicitDefEqProofs [ccA, ccR, w1, b1, f2, o2, p2, hb0]
        have ik := isa_kept (a ++ b)
        simp only [List.map_append] at ik
        refine Weak.sub (by simp [lk, keptA, AV.keys]) ?_
        simp only [List.mem_cons, List.not_mem_nil, or_false, forall_eq_or_imp, forall_eq, ik, and_true]
        simp [lk]
    · intro _
      refine GO_AR mixed 1000 ?_
      simp -implicitDefEqProofs [ccA, ccR]
      refine GO_ret mixed 1000 ?_
      have p1 := isa_pure a
      have p2 := isa_pure b
      simp -implicitDefEqProofs [p1, p2]
end
end Go.Proofs.YtdpmioiamcgfkaaDoor

/-! Issues in the order of their names: plain. -/
namespace Go.Proofs.YtdpmioiamcgfkaaDoor
open Go.RowKit

def kyN (x : Iss) : Int := x.d * 16 + x.l
theorem cmpN_lt {x y : Iss} (hx : okN x) (hy : okN y) : cmpN x y < 0 ↔ kyN x < kyN y := by
  obtain ⟨x1, x2, x3, x4⟩ := hx
  obtain ⟨y1, y2, y3, y4⟩ := hy
  unfold cmpN kyN
  split <;> omega
theorem kyN_eq {x y : Iss} (hx : okN x) (hy : okN y) : kyN x = kyN y ↔ (x.d = y.d ∧ x.l = y.l) := by
  obtain ⟨x1, x2, x3, x4⟩ := hx
  obtain ⟨y1, y2, y3, y4⟩ := hy
  unfold kyN
  omega

def leN (x y : Iss) : Bool := decide (kyN x ≤ kyN y)
def sortN (l : List Iss) : List Iss := l.mergeSort leN
/-- Lists in order. -/
def SrtN (l : List Iss) : Prop := l.Pairwise fun x y => kyN x ≤ kyN y
/-- Names tell issues. -/
def InjN (l : List Iss) : Prop := ∀ x ∈ l, ∀ y ∈ l, kyN x = kyN y → x = y

theorem sortN_perm (l : List Iss) : (sortN l).Perm l := List.mergeSort_perm l _
theorem sortN_srt (l : List Iss) : SrtN (sortN l) := by
  have := List.pairwise_mergeSort (le := leN) (fun a b c => by simp [leN]; omega) (fun a b => by simp [leN]; omega) l
  exact this.imp (by simp [leN])
theorem InjN.perm {a b : List Iss} (h : InjN a) (p : a.Perm b) : InjN b := fun x hx y hy => h x (p.mem_iff.2 hx) y (p.mem_iff.2 hy)
theorem InjN.sub {a b : List Iss} (h : InjN a) (s : ∀ x ∈ b, x ∈ a) : InjN b := fun x hx y hy => h x (s x hx) y (s y hy)
theorem sort_uniq {a b : List Iss} (hi : InjN a) (p : a.Perm b) (ha : SrtN a) (hb : SrtN b) : a = b :=
  List.Perm.eq_of_pairwise (le := fun x y => kyN x ≤ kyN y) (fun x y hx hy h1 h2 => hi x hx y (p.mem_iff.2 hy) (by omega)) ha hb p
theorem sortN_eq {l s : List Iss} (hi : InjN l) (p : s.Perm l) (hs : SrtN s) : sortN l = s :=
  sort_uniq (hi.perm (sortN_perm l).symm) ((sortN_perm l).trans p.symm) (sortN_srt l) hs
theorem sortN_len (l : List Iss) : (sortN l).length = l.length := (sortN_perm l).length_eq
theorem sortN_mem {l : List Iss} {x : Iss} : x ∈ sortN l ↔ x ∈ l := (sortN_perm l).mem_iff

/-- A part of a list in order. -/
def srtS (l : List Iss) (a b : Nat) : List Iss := l.take a ++ (sortN ((l.take b).drop a) ++ l.drop b)
theorem srtS_len {l : List Iss} {a b : Nat} (h1 : a ≤ b) (h2 : b ≤ l.length) : (srtS l a b).length = l.length := by
  simp [srtS, sortN_len]; omega
theorem srtS_one {l : List Iss} {a b : Nat} (h1 : a ≤ b) (h2 : b ≤ a + 1) : srtS l a b = l := by
  have e : sortN ((l.take b).drop a) = (l.take b).drop a := by
    generalize hq : (l.take b).drop a = q
    have hl : q.length ≤ 1 := by rw [← hq]; simp; omega
    match q, hl with
    | [], _ => simp [sortN]
    | [x], _ => simp [sortN]
  have e2 : l.take a = (l.take b).take a := by rw [List.take_take, Nat.min_eq_left h1]
  rw [srtS, e, ← List.append_assoc, e2, List.take_append_drop, List.take_append_drop]

/-- While an issue is moved: it is ahead of those from p on. -/
def mvS (l : List Iss) (a i p : Nat) : List Iss :=
  l.take a ++ ((sortN ((l.take i).drop a)).take p ++ (l.getD i default :: ((sortN ((l.take i).drop a)).drop p ++ l.drop (i + 1))))
theorem seg_len {l : List Iss} {a i : Nat} (h : i ≤ l.length) : (sortN ((l.take i).drop a)).length = i - a := by rw [sortN_len]; simp; omega
theorem mvS_zero {l : List Iss} {a i : Nat} (h1 : a ≤ i) (h2 : i < l.length) : srtS l a i = mvS l a i (i - a) := by
  have e := seg_len (l := l) (a := a) (i := i) (by omega)
  rw [mvS, srtS, List.drop_eq_getElem_cons h2]
  generalize sortN ((l.take i).drop a) = s at *
  rw [List.take_of_length_le (by omega : s.length ≤ i - a), List.drop_of_length_le (by omega : s.length ≤ i - a)]
  simp [List.getD_eq_getElem?_getD, h2]
theorem mvS_len {l : List Iss} {a i p : Nat} (h1 : a ≤ i) (h2 : i < l.length) (h3 : p ≤ i - a) : (mvS l a i p).length = l.length := by
  have e := seg_len (l := l) (a := a) (i := i) (by omega)
  simp [mvS, e]; omega
theorem swap_at {α : Type} (D C : List α) (y x : α) (n : Nat) (h : n = D.length) : ((D ++ y :: x :: C).set (n + 1) y).set n x = D ++ x :: y :: C := by
  subst h
  rw [List.set_append_right _ _ (by omega), List.set_append_right _ _ (by omega)]
  simp
/-- The two that are compared, and what changing their places gives. -/
theorem mvS_at {l : List Iss} {a i p : Nat} (h1 : a ≤ i) (h2 : i < l.length) (h3 : p + 1 ≤ i - a) :
    ∃ y, (sortN ((l.take i).drop a))[p]? = some y ∧ (mvS l a i (p + 1))[a + p + 1]? = some l[i] ∧ (mvS l a i (p + 1))[a + p]? = some y ∧ ((mvS l a i (p + 1)).set (a + p + 1) y).set (a + p) l[i] = mvS l a i p ∧ y ∈ l := by
  have e := seg_len (l := l) (a := a) (i := i) (by omega)
  have hm : ∀ y ∈ sortN ((l.take i).drop a), y ∈ l := fun y hy => List.mem_of_mem_take (List.mem_of_mem_drop (sortN_mem.1 hy))
  unfold mvS
  generalize sortN ((l.take i).drop a) = s at *
  have hp : p < s.length := by omega
  have ta : (l.take a).length = a := by simp; omega
  have e1 : s.take (p + 1) = s.take p ++ [s[p]] := List.take_succ_eq_append_getElem hp
  have e2 : s.drop p = s[p] :: s.drop (p + 1) := List.drop_eq_getElem_cons hp
  have e3 : l.getD i default = l[i] := by simp [List.getD_eq_getElem?_getD, h2]
  have tp : (s.take p).length = p := by simp; omega
  refine ⟨s[p], by simp [hp], ?_, ?_, ?_, hm _ (List.getElem_mem hp)⟩
  · rw [e1, e3, List.getElem?_append_right (by omega), ta, List.getElem?_append_right (by simp; omega)]
    have : a + p + 1 - a - (s.take p ++ [s[p]]).length = 0 := by simp; omega
    rw [this]; rfl
  · rw [e1, List.getElem?_append_right (by omega), ta, List.append_assoc, List.getElem?_append_right (by omega), tp]
    have : a + p - a - p = 0 := by omega
    rw [this]; rfl
  · rw [e1, e2, e3, List.append_assoc]
    have q := swap_at (l.take a ++ s.take p) (s.drop (p + 1) ++ l.drop (i + 1)) s[p] l[i] (a + p) (by simp; omega)
    simp only [List.append_assoc, List.cons_append, List.nil_append] at q ⊢
    exact q

/-- At its place. -/
theorem mvS_end {l : List Iss} {a i p : Nat} (hi : InjN l) (h1 : a ≤ i) (h2 : i < l.length) (h3 : p ≤ i - a)
    (hd : ∀ y ∈ (sortN ((l.take i).drop a)).drop p, kyN l[i] < kyN y) (hc : ∀ q, p = q + 1 → ∀ y, (sortN ((l.take i).drop a))[q]? = some y → ¬ kyN l[i] < kyN y) : mvS l a i p = srtS l a (i + 1) := by
  have e := seg_len (l := l) (a := a) (i := i) (by omega)
  have e3 : l.getD i default = l[i] := by simp [List.getD_eq_getElem?_getD, h2]
  have e4 : (l.take (i + 1)).drop a = (l.take i).drop a ++ [l[i]] := by
    rw [List.take_succ_eq_append_getElem h2, List.drop_append_of_le_length (by simp; omega)]
  have hs := sortN_srt ((l.take i).drop a)
  have hp := sortN_perm ((l.take i).drop a)
  have hm : ∀ x ∈ (l.take (i + 1)).drop a, x ∈ l := fun y hy => List.mem_of_mem_take (List.mem_of_mem_drop hy)
  rw [srtS, mvS, e3]
  rw [sortN_eq (s := (sortN ((l.take i).drop a)).take p ++ l[i] :: (sortN ((l.take i).drop a)).drop p) (hi.sub hm)]
  · simp [List.append_assoc]
  · rw [e4]
    refine List.perm_middle.trans ?_
    rw [List.take_append_drop]
    exact (List.perm_cons _).2 hp |>.trans (List.perm_append_singleton _ _).symm
  · generalize sortN ((l.take i).drop a) = s at *
    have hs2 := hs
    unfold SrtN at hs ⊢
    rw [← List.take_append_drop p s, List.pairwise_append] at hs
    obtain ⟨t1, t2, t3⟩ := hs
    rw [List.pairwise_append]
    refine ⟨t1, List.pairwise_cons.2 ⟨fun y hy => by have := hd y hy; omega, t2⟩, fun u hu v hv => ?_⟩
    rcases List.mem_cons.1 hv with rfl | hv
    · match p, hc, h3 with
      | 0, _, _ => simp at hu
      | q + 1, hc, h3 =>
        have hq : q < s.length := by omega
        have hc2 := hc q rfl s[q] (by simp [hq])
        obtain ⟨j, hj, rfl⟩ := List.getElem_of_mem hu
        rw [List.getElem_take]
        have hjq : j ≤ q := by simp at hj; omega
        rcases Nat.lt_or_ge j q with hl | hg
        · have := List.pairwise_iff_getElem.1 hs2 j q (by omega) hq hl
          omega
        · have : j = q := by omega
          subst this
          omega
    · exact t3 u hu v hv
end Go.Proofs.YtdpmioiamcgfkaaDoor

/-! The insertion sort, by the abstract machine. -/
namespace Go.Proofs.YtdpmioiamcgfkaaDoor
open Go.RowKit

theorem frz_isa (ok : Nat → Bool) (st : St) (l : List Iss) : frzO ok st (.row 5 (l.map isa)) = .row 5 (l.map isa) := by
  simp only [frzO, List.map_map]
  congr 2
  funext p; simp [isa, frzA, frz, AV.keys]
section
variable {G : Nat → Option (List AV)}

def fM1 : AV := .func (.func 92) [] []
theorem insert_pb (l : List Iss) (a b : Nat) (hv : ∀ x ∈ l, okN x) (hin : InjN l) (h1 : a ≤ b) (h2 : b ≤ l.length) (h3 : l.length ≤ 1000) :
    PB Tryd.prog G 130 [(1000, .row 5 (l.map isa))] [.osl 1000 l.length, .int .i64 a, .int .i64 b, fM1] (.tup []) [(1000, .row 5 ((srtS l a b).map isa))] := by
  (refine pb_slices_insertionSortCmpFunc_api_Issue (Nat.le_of_ble_eq_true rfl) fun R hG hrd => GO_AR mixed 1000 ?_; subst hG)
  have w1 : IntKind.i64.wrap ((a : Int) + 1) = a + 1 := wrapI (by omega) (by omega)
  simp -implicitDefEqProofs [rc_slices_insertionSortCmpFunc_api_Issue, rr_slices_insertionSortCmpFunc_api_Issue, fM1, w1]
  refine AR_for (fun i => ⟨[(8, .int .i64 ((a : Int) + 1 + i)), (0, .osl 1000 l.length), (1, .int .i64 a), (2, .int .i64 b), (3, fM1)], [(1000, .row 5 ((srtS l a (a + 1 + i)).map isa))]⟩) (fun i => True) (b - (a + 1)) ?_ trivial ?_ ?_
  · rw [srtS_one (by omega) (by omega)]
    refine Weak.sub (by simp [lk, keptA, AV.keys, fM1]) ?_
    simp only [List.mem_cons, List.not_mem_nil, or_false, forall_eq_or_imp, forall_eq, isa_kept, and_true]
    simp [lk]
  · intro i hi _
    refine GO_AR mixed 1000 ?_
    have k1 : (a : Int) + 1 + i < b := by omega
    simp -implicitDefEqProofs [fM1, k1]
    have hI : a + 1 + i < l.length := by omega
    have z := mvS_zero (l := l) (a := a) (i := a + 1 + i) (by omega) hI
    have z0 : a + 1 + i - a = i + 1 := by omega
    rw [z0] at z
    rw [z]
    have hx := hv _ (List.getElem_mem hI)
    have ex : isa l[a + 1 + i] = [.int .i64 l[a + 1 + i].d, .int .i64 l[a + 1 + i].l, .int .u8 l[a + 1 + i].k, .vsl (l[a + 1 + i].its.map ita), .vsl (l[a + 1 + i].dms.map dma)] := rfl
    have hat := fun p (hp : p + 1 ≤ a + 1 + i - a) => mvS_at (l := l) (a := a) (i := a + 1 + i) (p := p) (by omega) hI hp
    have hend := fun p => mvS_end (l := l) (a := a) (i := a + 1 + i) (p := p) hin (by omega) hI
    have hln := fun p (hp : p ≤ a + 1 + i - a) => mvS_len (l := l) (a := a) (i := a + 1 + i) (p := p) (by omega) hI hp
    have hsl := seg_len (l := l) (a := a) (i := a + 1 + i) (by omega)
    generalize hsg : sortN ((l.take (a + 1 + i)).drop a) = s at *
    generalize hxx : l[a + 1 + i] = x at *
    refine AR_loop (fun p : Nat => ⟨[(9, .int .i64 ((a : Int) + p)), (8, .int .i64 ((a : Int) + 1 + i)), (0, .osl 1000 l.length), (1, .int .i64 a), (2, .int .i64 b), (3, .func (.func 92) [] [])], [(1000, .row 5 ((mvS l a (a + 1 + i) p).map isa))]⟩)
      (fun p => p ≤ i + 1 ∧ ∀ y ∈ s.drop p, kyN x < kyN y) (fun p => p) (i + 1) ?_ ⟨Nat.le_refl _, fun y hy => by rw [List.drop_of_length_le (by omega)] at hy; cases hy⟩ ?_
    · have e9 : (a : Int) + 1 + i = (a : Int) + (i + 1 : Nat) := by omega
      rw [e9]
      refine Weak.sub (by simp [lk, keptA, AV.keys]) ?_
      simp only [List.mem_cons, List.not_mem_nil, or_false, forall_eq_or_imp, forall_eq, isa_kept, and_true]
      simp [lk]
    · rintro p ⟨hp, hd⟩
      refine GO_AR mixed 1000 ?_
      cases p with
      | zero =>
        have k2 : ¬ (a : Int) < a := by omega
        simp -implicitDefEqProofs []
        refine ⟨rfl, ?_⟩
        refine GO_ret mixed 1000 ?_
        have w3 : IntKind.i64.wrap ((a : Int) + 1 + i + 1) = (a : Int) + 1 + (i + 1) := by rw [wrapI (by omega) (by omega)]; omega
        have he := hend 0 (Nat.zero_le _) hd (fun q hq => by omega)
        have he2 : a + 1 + i + 1 = a + 1 + (i + 1) := by omega
        rw [he2] at he
        simp -implicitDefEqProofs [w3]
        refine Weak.sub (by simp [lk, keptA, AV.keys]) ?_
        simp only [List.mem_cons, List.not_mem_nil, or_false, forall_eq_or_imp, forall_eq, isa_kept, and_true]
        simp [lk, he]
      | succ p =>
        obtain ⟨y, hy0, hy1, hy2, hy3, hy4⟩ := hat p (by omega)
        have ey : isa y = [.int .i64 y.d, .int .i64 y.l, .int .u8 y.k, .vsl (y.its.map ita), .vsl (y.dms.map dma)] := rfl
        have hl2 := hln (p + 1) (by omega)
        have k2 : (a : Int) < (a : Int) + (p + 1) := by omega
        have k3 : ((a : Int) + (p + 1)).toNat = a + p + 1 := by omega
        have w2 : IntKind.i64.wrap ((a : Int) + (p + 1) - 1) = (a : Int) + p := by rw [wrapI (by omega) (by omega)]; omega
        have k4 : ((a : Int) + p).toNat = a + p := by omega
        have k5 : a + p + 1 < l.length := by omega
        have k6 : a + p < l.length := by omega
        have k7 : (0 : Int) ≤ (a : Int) + (p + 1) := by omega
        have k8 : (0 : Int) ≤ (a : Int) + p := by omega
        have he := hend (p + 1) (by omega) hd
        generalize mvS l a (a + 1 + i) (p + 1) = Q at *
        obtain ⟨q1, g1⟩ := List.getElem?_eq_some_iff.1 hy1
        obtain ⟨q2, g2⟩ := List.getElem?_eq_some_iff.1 hy2
        have hcl := cmpN_lt hx (hv y hy4)
        simp -implicitDefEqProofs [k2, k3, w2, k4, k5, k6, k7, k8, g1, g2, hl2, ex, ey]
        refine CallD.of (merge1_pc x y hx (hv y hy4)) (by simp [AV.pure]) ?_
        by_cases hlt : cmpN x y < 0
        · simp -implicitDefEqProofs [hlt, k3, w2, k4, k5, k6, k7, k8, g1, g2, hl2, ex, ey]
          refine ⟨rfl, rfl, p, ?_, ⟨by omega, fun u hu => ?_⟩, Nat.lt_succ_self _⟩
          · rw [← ex, ← ey, ← List.map_set, ← List.map_set, hy3]
            refine Weak.sub (by simp [lk, keptA, AV.keys]) ?_
            simp only [List.mem_cons, List.not_mem_nil, or_false, forall_eq_or_imp, forall_eq, isa_kept, and_true]
            simp [lk]
          · obtain ⟨hps, gs⟩ := List.getElem?_eq_some_iff.1 hy0
            rw [List.drop_eq_getElem_cons hps, gs] at hu
            rcases List.mem_cons.1 hu with rfl | hu
            · exact hcl.1 hlt
            · exact hd u hu
        · simp -implicitDefEqProofs [hlt]
          refine ⟨rfl, ?_⟩
          refine GO_ret mixed 1000 ?_
          have w3 : IntKind.i64.wrap ((a : Int) + 1 + i + 1) = (a : Int) + 1 + (i + 1) := by rw [wrapI (by omega) (by omega)]; omega
          have he := he (fun q hq u hu hk => by
            have : q = p := by omega
            subst this
            rw [hy0] at hu
            cases hu
            exact hlt (hcl.2 hk))
          have he2 : a + 1 + i + 1 = a + 1 + (i + 1) := by omega
          rw [he2] at he
          simp -implicitDefEqProofs [w3]
          refine Weak.sub (by simp [lk, keptA, AV.keys]) ?_
          simp only [List.mem_cons, List.not_mem_nil, or_false, forall_eq_or_imp, forall_eq, isa_kept, and_true]
          simp [lk, he]
  · intro _
    refine GO_AR mixed 1000 ?_
    have k1 : ¬ (a : Int) + 1 + (b - (a + 1) : Nat) < b := by omega
    simp -implicitDefEqProofs [fM1, k1]
    refine GO_ret mixed 1000 ?_
    have e : srtS l a (a + 1 + (b - (a + 1))) = srtS l a b := by
      rcases Nat.lt_or_ge a b with h | h
      · congr 1; omega
      · rw [srtS_one (by omega) (by omega), srtS_one (by omega) (by omega)]
    rw [e]
    refine ⟨[], rfl, rfl, ?_⟩
    simp [frzSt, newK, frz_isa]
end
end Go.Proofs.YtdpmioiamcgfkaaDoor

/-! The stable sort of few issues, by the abstract machine. -/
namespace Go.Proofs.YtdpmioiamcgfkaaDoor
open Go.RowKit
section
variable {G : Nat → Option (List AV)}

theorem srtS_all (l : List Iss) : srtS l 0 l.length = sortN l := by simp [srtS]
theorem isa_ren (ρ : Nat → Nat) (l : List Iss) : AObj.ren ρ (.row 5 (l.map isa)) = .row 5 (l.map isa) := by
  simp only [AObj.ren, List.map_map]
  congr 2
  funext p; simp [isa, AV.ren]
theorem stable_few_pb (l : List Iss) (hv : ∀ x ∈ l, okN x) (hin : InjN l) (h3 : l.length < 20) :
    PB Tryd.prog G 116 [(1000, .row 5 (l.map isa))] [.osl 1000 l.length, .int .i64 l.length, fM1] (.tup []) [(1000, .row 5 ((sortN l).map isa))] := by
  (refine pb_slices_stableCmpFunc_api_Issue (Nat.le_of_ble_eq_true rfl) fun R hG hrd => GO_AR mixed 1000 ?_; subst hG)
  have k1 : ¬ (20 : Int) ≤ l.length := by omega
  have k2 : ¬ (20 : Int) < l.length := by omega
  have hp := insert_pb (G := R.G) l 0 l.length hv hin (Nat.zero_le _) (Nat.le_refl _) (by omega)
  rw [srtS_all] at hp
  simp -implicitDefEqProofs [rc_slices_stableCmpFunc_api_Issue, rr_slices_stableCmpFunc_api_Issue, fM1]
  refine AR_for (fun i => ⟨[(8, .int .i64 20), (7, .int .i64 0), (6, .int .i64 20), (0, .osl 1000 l.length), (1, .int .i64 l.length), (2, fM1)], [(1000, .row 5 (l.map isa))]⟩) (fun _ => True) 0 ?_ trivial (fun i hi => by omega) fun _ => ?_
  · refine Weak.sub (by simp [lk, keptA, AV.keys, fM1]) ?_
    simp only [List.mem_cons, List.not_mem_nil, or_false, forall_eq_or_imp, forall_eq, isa_kept, and_true]
    simp [lk]
  refine GO_AR mixed 1000 ?_
  simp -implicitDefEqProofs [fM1, k1]
  refine GO_ret mixed 1000 ?_
  simp -implicitDefEqProofs []
  refine CallK.sem (CallSem.byref hp id (by simp) (by simp) (by simp [St.get, lk, isa_ren]) (by simp [isa_kept]) (by simp [keptA, AV.keys, lk, fM1]) rfl (by simp [AV.ren, fM1]) rfl rfl) ?_
  simp -implicitDefEqProofs [setsB, isa_ren]
  refine AR_for (fun i => ⟨[(6, .int .i64 20), (1, .int .i64 l.length)], [(1000, .row 5 ((sortN l).map isa))]⟩) (fun _ => True) 0 ?_ trivial (fun i hi => by omega) fun _ => ?_
  · refine Weak.sub (by simp [lk, keptA, AV.keys, fM1]) ?_
    simp only [List.mem_cons, List.not_mem_nil, or_false, forall_eq_or_imp, forall_eq, isa_kept, and_true]
    simp [lk]
  refine GO_AR mixed 1000 ?_
  simp -implicitDefEqProofs [k2]
  refine GO_ret mixed 1000 ?_
  refine ⟨[], rfl, rfl, ?_⟩
  simp [frzSt, newK, frz_isa]

theorem sort_few_pb (l : List Iss) (hv : ∀ x ∈ l, okN x) (hin : InjN l) (h3 : l.length < 20) :
    PB Tryd.prog G 91 [(1000, .row 5 (l.map isa))] [.osl 1000 l.length, fM1] (.tup []) [(1000, .row 5 ((sortN l).map isa))] := by
  (refine pb_slices_SortStableFunc_api_Issue_api_Issue (Nat.le_of_ble_eq_true rfl) fun R hG hrd => GO_AR mixed 1000 ?_; subst hG)
  simp -implicitDefEqProofs [rc_slices_SortStableFunc_api_Issue_api_Issue, rr_slices_SortStableFunc_api_Issue_api_Issue, fM1]
  refine CallK.sem (CallSem.byref (stable_few_pb l hv hin h3) id (by simp) (by simp) (by simp [St.get, lk, isa_ren]) (by simp [isa_kept]) (by simp [keptA, AV.keys, lk, fM1]) rfl (by simp [AV.ren, fM1]) rfl rfl) ?_
  simp -implicitDefEqProofs [setsB, isa_ren]
  refine ⟨[], rfl, rfl, ?_⟩
  simp [frzSt, newK, frz_isa]
end
end Go.Proofs.YtdpmioiamcgfkaaDoor

/-! Equal names that stand side by side are put together, by the abstract machine. -/
namespace Go.Proofs.YtdpmioiamcgfkaaDoor
open Go.RowKit

def smN (x y : Iss) : Bool := decide (x.d = y.d ∧ x.l = y.l)
/-- Of the first p issues those whose name is not that of the one ahead. -/
def kN (l : List Iss) : Nat → List Iss
  | 0 => []
  | p + 1 => if p ≠ 0 ∧ smN (l.getD p default) (l.getD (p - 1) default) = true then kN l p else kN l p ++ [l.getD p default]
theorem kN_len (l : List Iss) : ∀ p, (kN l p).length ≤ p
  | 0 => Nat.le_refl _
  | p + 1 => by
    have := kN_len l p
    rw [kN]; split <;> simp <;> omega
/-- None stands twice among the first p. -/
def noD (l : List Iss) (p : Nat) : Prop := ∀ j, 0 < j → j < p → smN (l.getD j default) (l.getD (j - 1) default) = false
theorem kN_noD {l : List Iss} : ∀ {p : Nat}, noD l p → p ≤ l.length → kN l p = l.take p
  | 0, _, _ => rfl
  | p + 1, h, hp => by
    rw [kN, kN_noD (p := p) (fun j h1 h2 => h j h1 (by omega)) (by omega), List.take_succ_eq_append_getElem (by omega)]
    have e : l.getD p default = l[p] := by simp [List.getD_eq_getElem?_getD, show p < l.length by omega]
    split
    · rename_i h2
      rw [h p (by omega) (by omega)] at h2
      exact absurd h2.2 (by simp)
    · rw [e]
/-- The list while it is put together. -/
def cpS (l : List Iss) (p : Nat) : List Iss := kN l p ++ l.drop (kN l p).length
theorem cpS_len {l : List Iss} {p : Nat} (h : p ≤ l.length) : (cpS l p).length = l.length := by
  have := kN_len l p
  simp [cpS]; omega
theorem cpS_at {l : List Iss} {p j : Nat} (hp : p < l.length) (h1 : (kN l p).length ≤ j) (h2 : j ≤ p) : (cpS l p)[j]? = some (l.getD j default) := by
  rw [cpS, List.getElem?_append_right h1, List.getElem?_drop]
  have : (kN l p).length + (j - (kN l p).length) = j := by omega
  rw [this]
  simp [List.getD_eq_getElem?_getD, show j < l.length by omega]
theorem cpS_keep {l : List Iss} {p : Nat} (hp : p < l.length) (h : ¬ (p ≠ 0 ∧ smN (l.getD p default) (l.getD (p - 1) default) = true)) : (cpS l p).set (kN l p).length (l.getD p default) = cpS l (p + 1) := by
  have hl := kN_len l p
  have e : kN l (p + 1) = kN l p ++ [l.getD p default] := by rw [kN, if_neg h]
  rw [cpS, cpS, e, List.set_append_right _ _ (by omega), Nat.sub_self, List.drop_eq_getElem_cons (by omega : (kN l p).length < l.length)]
  simp only [List.set_cons_zero, List.length_append, List.length_singleton, List.append_assoc, List.singleton_append]
theorem cpS_skip {l : List Iss} {p : Nat} (h : p ≠ 0 ∧ smN (l.getD p default) (l.getD (p - 1) default) = true) : cpS l (p + 1) = cpS l p ∧ kN l (p + 1) = kN l p := by
  have e : kN l (p + 1) = kN l p := by rw [kN, if_pos h]
  exact ⟨by rw [cpS, cpS, e], e⟩

def cmpct (l : List Iss) : List Iss := kN l l.length
def zrI : List AV := [.int .i64 0, .int .i64 0, .int .u8 0, .nils, .nils]
def cmpO (l : List Iss) : List (List AV) := (cmpct l).map isa ++ List.replicate (l.length - (cmpct l).length) zrI
def cmpV (k : Nat) (l : List Iss) : AV := if (cmpct l).length = l.length then .osl k l.length else .oss k l.length 0 (cmpct l).length
def fM2 : AV := .func (.func 95) [] []
theorem kN_lt {l : List Iss} {k : Nat} (hk0 : k ≠ 0) (hd : smN (l.getD k default) (l.getD (k - 1) default) = true) : ∀ p, k < p → (kN l p).length < p := by
  intro p hp
  induction p with
  | zero => omega
  | succ p ih =>
    by_cases h : p = k
    · subst h
      have := kN_len l p
      rw [kN, if_pos ⟨hk0, hd⟩]; omega
    · have := ih (by omega)
      rw [kN]; split <;> simp <;> omega
theorem getD_lt {l : List Iss} {p : Nat} (h : p < l.length) : l.getD p default = l[p] := by simp [List.getD_eq_getElem?_getD, h]
theorem cmp_noD {l : List Iss} (h : noD l l.length) : cmpct l = l := by rw [cmpct, kN_noD h (Nat.le_refl _), List.take_length]
theorem frz_cmpO (ok : Nat → Bool) (st : St) (l : List Iss) : frzO ok st (.row 5 (cmpO l)) = .row 5 (cmpO l) := by
  have h := frz_isa ok st (cmpct l)
  simp only [frzO, AObj.row.injEq, true_and] at h ⊢
  rw [cmpO, List.map_append, h]
  simp [zrI, frzA, frz, AV.keys]
section
variable {G : Nat → Option (List AV)}

theorem compact_pb (l : List Iss) (h3 : l.length ≤ 1000) :
    PB Tryd.prog G 94 [(1000, .row 5 (l.map isa))] [.osl 1000 l.length, fM2] (cmpV 1000 l) [(1000, .row 5 (cmpO l))] := by
  (refine pb_slices_CompactFunc_api_Issue_api_Issue (Nat.le_of_ble_eq_true rfl) fun R hG hrd => GO_AR mixed 1000 ?_; subst hG)
  simp -implicitDefEqProofs [rc_slices_CompactFunc_api_Issue_api_Issue, rr_slices_CompactFunc_api_Issue_api_Issue, fM2]
  by_cases hs : (l.length : Int) < 2
  · have e : cmpct l = l := cmp_noD fun j h1 h2 => by omega
    simp -implicitDefEqProofs [hs]
    refine ⟨[.osl 1000 l.length], ?_, ?_, ?_⟩
    · simp [evRess, evRes, frzSt, newK, frzA, frz, AV.keys, lk, St.tmp, rr_slices_CompactFunc_api_Issue_api_Issue]
    · simp [cmpV, e, tupV]
    · simp [frzSt, newK, frz_isa, cmpO, e]
  simp -implicitDefEqProofs [hs]
  refine AR_for (fun i => ⟨[(5, .int .i64 ((i : Int) + 1)), (0, .osl 1000 l.length), (1, fM2)], [(1000, .row 5 (l.map isa))]⟩) (fun i => noD l (i + 1)) (l.length - 1) ?_ (fun j h1 h2 => by omega) ?_ ?_
  · refine Weak.sub (by simp [lk, keptA, AV.keys, fM2]) ?_
    simp only [List.mem_cons, List.not_mem_nil, or_false, forall_eq_or_imp, forall_eq, isa_kept, and_true]
    simp [lk]
  · intro i hi hn
    refine GO_AR mixed 1000 ?_
    have k1 : (i : Int) + 1 < l.length := by omega
    have k2 : ((i : Int) + 1).toNat = i + 1 := by omega
    have k3 : (0 : Int) ≤ (i : Int) + 1 := by omega
    have k4 : i + 1 < l.length := by omega
    have k5 : i < l.length := by omega
    have w1 : IntKind.i64.wrap (i : Int) = i := wrapI (by omega) (by omega)
    have w2 : IntKind.i64.wrap ((i : Int) + 1 + 1) = (i : Int) + 1 + 1 := wrapI (by omega) (by omega)
    have ex : ∀ x, isa x = [.int .i64 x.d, .int .i64 x.l, .int .u8 x.k, .vsl (x.its.map ita), .vsl (x.dms.map dma)] := fun x => rfl
    simp -implicitDefEqProofs [fM2, k1, k2, k3, k4, k5, w1, ex]
    refine CallD.of (merge2_pc l[i + 1] l[i]) (by simp [AV.pure, isa]) ?_
    have hsm : smN (l.getD (i + 1) default) (l.getD i default) = decide (l[i + 1].d = l[i].d ∧ l[i + 1].l = l[i].l) := by rw [getD_lt k4, getD_lt k5]; rfl
    by_cases hd : l[i + 1].d = l[i].d ∧ l[i + 1].l = l[i].l
    · simp -implicitDefEqProofs [hd]
      refine ⟨rfl, ?_⟩
      rw [decide_eq_true hd] at hsm
      have hs2 : i + 1 ≠ 0 ∧ smN (l.getD (i + 1) default) (l.getD (i + 1 - 1) default) = true := ⟨by omega, hsm⟩
      have hk := kN_noD hn (by omega)
      have hk1 : (kN l (i + 1)).length = i + 1 := by rw [hk]; simp; omega
      obtain ⟨c1, c2⟩ := cpS_skip hs2
      have c3 : cpS l (i + 1) = l := by rw [cpS, hk1, hk, List.take_append_drop]
      have hkl := fun p => kN_lt (l := l) (k := i + 1) (by omega) hsm p
      have k6 : i + 1 ≤ l.length := by omega
      simp -implicitDefEqProofs [k2, k3, k6]
      refine AR_for (fun j => ⟨[(7, .int .i64 ((j : Int) + 1)), (6, .oss 1000 l.length (i + 1) l.length), (5, .int .i64 (kN l (i + 1 + 1 + j)).length), (0, .osl 1000 l.length), (1, .func (.func 95) [] [])], [(1000, .row 5 ((cpS l (i + 1 + 1 + j)).map isa))]⟩) (fun _ => True) (l.length - (i + 1 + 1)) ?_ trivial ?_ ?_
      · have z1 : cpS l (i + 1 + 1 + 0) = l := by rw [Nat.add_zero, c1, c3]
        have z2 : (kN l (i + 1 + 1 + 0)).length = i + 1 := by rw [Nat.add_zero, c2, hk1]
        rw [z1, z2]
        refine Weak.sub (by simp [lk, keptA, AV.keys]) ?_
        simp only [List.mem_cons, List.not_mem_nil, or_false, forall_eq_or_imp, forall_eq, isa_kept, and_true]
        simp [lk]
      · intro j hj _
        refine GO_AR mixed 1000 ?_
        have hq : i + 1 + 1 + j < l.length := by omega
        have hq2 : i + 1 + j < l.length := by omega
        have hml := hkl (i + 1 + 1 + j) (by omega)
        have hcl := cpS_len (l := l) (p := i + 1 + 1 + j) (by omega)
        have a1 := cpS_at (j := i + 1 + 1 + j) hq (by omega) (by omega)
        have a2 := cpS_at (j := i + 1 + j) hq (by omega) (by omega)
        rw [getD_lt hq] at a1
        rw [getD_lt hq2] at a2
        have hkeep := cpS_keep hq
        have hskip := cpS_skip (l := l) (p := i + 1 + 1 + j)
        have e3 : i + 1 + 1 + j - 1 = i + 1 + j := by omega
        have hkk : kN l (i + 1 + 1 + j + 1) = kN l (i + 1 + 1 + j + 1) := rfl
        conv at hkk => rhs; rw [kN]
        have hsm2 : smN (l.getD (i + 1 + 1 + j) default) (l.getD (i + 1 + j) default) = decide (l[i + 1 + 1 + j].d = l[i + 1 + j].d ∧ l[i + 1 + 1 + j].l = l[i + 1 + j].l) := by rw [getD_lt hq, getD_lt hq2]; rfl
        rw [e3, hsm2, getD_lt hq] at hkeep hkk
        rw [e3, hsm2] at hskip
        have e4 : i + 1 + 1 + (j + 1) = i + 1 + 1 + j + 1 := by omega
        have m1 : (j : Int) + 1 < ((l.length - (i + 1) : Nat) : Int) := by omega
        have m2 : ((j : Int) + 1).toNat = j + 1 := by omega
        have m3 : (0 : Int) ≤ (j : Int) + 1 := by omega
        have m4 : j + 1 < l.length - (i + 1) := by omega
        have m5 : j < l.length - (i + 1) := by omega
        have m6 : i + 1 + (j + 1) = i + 1 + 1 + j := by omega
        have u1 : IntKind.i64.wrap (j : Int) = j := wrapI (by omega) (by omega)
        have u2 : IntKind.i64.wrap ((j : Int) + 1 + 1) = (j : Int) + 1 + 1 := wrapI (by omega) (by omega)
        have u3 : IntKind.i64.wrap (((kN l (i + 1 + 1 + j)).length : Int) + 1) = (kN l (i + 1 + 1 + j)).length + 1 := wrapI (by omega) (by omega)
        have m7 : (kN l (i + 1 + 1 + j)).length < l.length := by omega
        have hpl := kN_len l (i + 1 + 1 + j)
        generalize cpS l (i + 1 + 1 + j) = Q at *
        obtain ⟨q1, g1⟩ := List.getElem?_eq_some_iff.1 a1
        obtain ⟨q2, g2⟩ := List.getElem?_eq_some_iff.1 a2
        generalize l[i + 1 + 1 + j] = x at *
        generalize l[i + 1 + j] = y at *
        have ex1 := ex x
        have ey1 := ex y
        simp -implicitDefEqProofs [m1, m2, m3, m4, m5, m6, u1, u2, hq, hq2, g1, g2, hcl, ex1, ey1]
        refine CallD.of (merge2_pc x y) (by simp [AV.pure, isa]) ?_
        by_cases hd2 : x.d = y.d ∧ x.l = y.l
        · obtain ⟨f1, f2⟩ := hskip ⟨by omega, decide_eq_true hd2⟩
          simp -implicitDefEqProofs [hd2, u2]
          refine ⟨rfl, ?_⟩
          rw [e4, f1, f2]
          refine Weak.sub (by simp [lk, keptA, AV.keys]) ?_
          simp only [List.mem_cons, List.not_mem_nil, or_false, forall_eq_or_imp, forall_eq, isa_kept, and_true]
          simp [lk]
        · have hn2 : ¬ (i + 1 + 1 + j ≠ 0 ∧ decide (x.d = y.d ∧ x.l = y.l) = true) := by
            rintro ⟨-, h⟩; exact hd2 (of_decide_eq_true h)
          have f1 := hkeep hn2
          rw [if_neg hn2] at hkk
          have il : ∀ z : Iss, (isa z).length = 5 := fun z => rfl
          have id5 : ∀ z : Iss, (isa z).drop 5 = [] := fun z => rfl
          have m8 : (((kN l (i + 1 + 1 + j)).length : Int) + 1) = ((kN l (i + 1 + 1 + j + 1)).length : Nat) := by rw [hkk]; simp
          simp -implicitDefEqProofs [hd2, m1, m2, m3, m4, m5, m6, u1, u2, u3, hq, hq2, g1, g2, hcl, ex1, ey1, m7, il, id5]
          refine ⟨rfl, ?_⟩
          rw [← ex1, ← List.map_set, f1, m8, e4]
          refine Weak.sub (by simp [lk, keptA, AV.keys]) ?_
          simp only [List.mem_cons, List.not_mem_nil, or_false, forall_eq_or_imp, forall_eq, isa_kept, and_true]
          simp [lk]
      · intro _
        refine GO_AR mixed 1000 ?_
        have n1 : ¬ (((l.length - (i + 1 + 1) : Nat) : Int) + 1 < ((l.length - (i + 1) : Nat) : Int)) := by omega
        have e5 : i + 1 + 1 + (l.length - (i + 1 + 1)) = l.length := by omega
        rw [e5]
        have hml := hkl l.length (by omega)
        have hcl := cpS_len (l := l) (p := l.length) (Nat.le_refl _)
        have n2 : (kN l l.length).length ≤ l.length := by omega
        simp -implicitDefEqProofs [n1, hcl]
        refine GO_ret mixed 1000 ?_
        simp -implicitDefEqProofs [hcl, n2]
        refine GO_ret mixed 1000 ?_
        have t1 : List.take (kN l l.length).length ((cpS l l.length).map isa) = (cmpct l).map isa := by
          rw [← List.map_take, cpS, List.take_left']; rfl
          rfl
        have t2 : List.drop l.length ((cpS l l.length).map isa) = [] := List.drop_of_length_le (by simp [hcl])
        rw [t1, t2, List.append_nil]
        have hne : ¬ (cmpct l).length = l.length := by rw [cmpct]; omega
        refine ⟨[.oss 1000 l.length 0 (kN l l.length).length], ?_, ?_, ?_⟩
        · simp [evRess, evRes, frzSt, newK, frzA, frz, AV.keys, lk, St.tmp]
        · rw [cmpV, if_neg hne]; rfl
        · have hz : List.map isa (cmpct l) ++ List.replicate (l.length - (kN l l.length).length) [AV.int .i64 0, AV.int .i64 0, AV.int .u8 0, AV.nils, AV.nils] = cmpO l := rfl
          rw [hz]
          simp [frzSt, newK, frz_cmpO]
    · rw [decide_eq_false hd] at hsm
      simp -implicitDefEqProofs [hd, w2]
      refine ⟨rfl, ?_, fun j h1 h2 => ?_⟩
      · ((try simp only [fM2]); refine Weak.sub (by simp [lk, keptA, AV.keys, fM2]) ?_; simp only [fM2, List.cons_append, List.nil_append, List.mem_cons, List.not_mem_nil, or_false, forall_eq_or_imp, forall_eq, isa_kept, and_true]; (try simp [lk, keptO, keptA, AV.keys, fM2]))
      · rcases Nat.lt_or_ge j (i + 1) with h | h
        · exact hn j h1 h
        · have : j = i + 1 := by omega
          subst this; exact hsm
  · intro hn
    refine GO_AR mixed 1000 ?_
    have k1 : ¬ ((l.length - 1 : Nat) : Int) + 1 < l.length := by omega
    have e : cmpct l = l := cmp_noD (by have : l.length - 1 + 1 = l.length := by omega
                                        rwa [this] at hn)
    simp -implicitDefEqProofs [k1, fM2]
    refine GO_ret mixed 1000 ?_
    simp -implicitDefEqProofs []
    refine ⟨[.osl 1000 l.length], ?_, ?_, ?_⟩
    · simp [evRess, evRes, frzSt, newK, frzA, frz, AV.keys, lk, St.tmp, rr_slices_CompactFunc_api_Issue_api_Issue]
    · simp [cmpV, e, tupV]
    · simp [frzSt, newK, frz_isa, cmpO, e]
end
end Go.Proofs.YtdpmioiamcgfkaaDoor

/-! Issues that are the same, by the abstract machine. -/
namespace Go.Proofs.YtdpmioiamcgfkaaDoor
open Go.RowKit
section
variable {G : Nat → Option (List AV)}

theorem equalI_pc (a b : List (Int × Int)) (ha : Sml a) : PC Tryd.prog G 137 [.vsl (a.map ita), .vsl (b.map ita)] (.bool (decide (a = b))) := by
  (refine pc_slices_Equal_api_Item_api_Item (Nat.le_of_ble_eq_true rfl) fun R hG hrd => GO_AR mixed 1000 ?_; subst hG)
  by_cases hl : a.length = b.length
  · have hl' : (a.length : Int) = b.length := by omega
    simp -implicitDefEqProofs [rc_slices_Equal_api_Item_api_Item, rr_slices_Equal_api_Item_api_Item, hl']
    refine AR_for (fun i => ⟨[(13, .int .i64 i), (12, .int .i64 a.length), (0, .vsl (a.map ita)), (1, .vsl (b.map ita))], []⟩) (fun i => ∀ j (h : j < a.length), j < i → a[j] = b[j]) a.length (by rw [hl']; (first | exact Weak.tm (by simp [lk]) | exact Weak.sub (by simp [lk, keptA, AV.keys]) (by simp [lk, keptO, keptA, AV.keys]))) (by simp) ?_ ?_
    · intro i hi he
      refine GO_AR mixed 1000 ?_
      unfold Sml at ha
      have hi2 : i < b.length := by omega
      have w1 : IntKind.i64.wrap ((i : Int) + 1) = ((i + 1 : Nat) : Int) := wrapI (by omega) (by omega)
      simp -implicitDefEqProofs [hi, hi2, ita]
      refine ⟨rfl, ?_⟩
      by_cases h2 : a[i] = b[i]
      · simp -implicitDefEqProofs [h2, w1]
        refine ⟨(by (first | exact Weak.tm (by simp [lk]) | exact Weak.sub (by simp [lk, keptA, AV.keys]) (by simp [lk, keptO, keptA, AV.keys]))), fun j h1 h3 => ?_⟩
        by_cases e : j = i
        · subst e; exact h2
        · exact he j h1 (by omega)
      · have h3 : ¬ a = b := fun e => h2 (by subst e; rfl)
        rw [pair_ne h2]
        simp -implicitDefEqProofs []
        refine GO_ret mixed 1000 ?_
        simp -implicitDefEqProofs [h3]
    · intro he
      refine GO_AR mixed 1000 ?_
      have h3 : a = b := List.ext_getElem hl fun j h1 h2 => he j h1 h1
      simp -implicitDefEqProofs []
      refine GO_ret mixed 1000 ?_
      simp -implicitDefEqProofs [h3]
  · have hl' : ¬ (a.length : Int) = b.length := by omega
    have h3 : ¬ a = b := fun e => hl (by rw [e])
    simp -implicitDefEqProofs [rc_slices_Equal_api_Item_api_Item, rr_slices_Equal_api_Item_api_Item, hl', h3]
theorem equalD_pc (a b : List Dm) (ha : Sml a) : PC Tryd.prog G 129 [.vsl (a.map dma), .vsl (b.map dma)] (.bool (decide (a = b))) := by
  (refine pc_slices_Equal_api_Dim_api_Dim (Nat.le_of_ble_eq_true rfl) fun R hG hrd => GO_AR mixed 1000 ?_; subst hG)
  by_cases hl : a.length = b.length
  · have hl' : (a.length : Int) = b.length := by omega
    simp -implicitDefEqProofs [rc_slices_Equal_api_Dim_api_Dim, rr_slices_Equal_api_Dim_api_Dim, hl']
    refine AR_for (fun i => ⟨[(13, .int .i64 i), (12, .int .i64 a.length), (0, .vsl (a.map dma)), (1, .vsl (b.map dma))], []⟩) (fun i => ∀ j (h : j < a.length), j < i → a[j] = b[j]) a.length (by rw [hl']; (first | exact Weak.tm (by simp [lk]) | exact Weak.sub (by simp [lk, keptA, AV.keys]) (by simp [lk, keptO, keptA, AV.keys]))) (by simp) ?_ ?_
    · intro i hi he
      refine GO_AR mixed 1000 ?_
      unfold Sml at ha
      have hi2 : i < b.length := by omega
      have w1 : IntKind.i64.wrap ((i : Int) + 1) = ((i + 1 : Nat) : Int) := wrapI (by omega) (by omega)
      simp -implicitDefEqProofs [hi, hi2, dma]
      refine ⟨rfl, ?_⟩
      by_cases h2 : a[i] = b[i]
      · simp -implicitDefEqProofs [h2, w1]
        refine ⟨(by (first | exact Weak.tm (by simp [lk]) | exact Weak.sub (by simp [lk, keptA, AV.keys]) (by simp [lk, keptO, keptA, AV.keys]))), fun j h1 h3 => ?_⟩
        by_cases e : j = i
        · subst e; exact h2
        · exact he j h1 (by omega)
      · have h3 : ¬ a = b := fun e => h2 (by subst e; rfl)
        rw [dm_ne h2]
        simp -implicitDefEqProofs []
        refine GO_ret mixed 1000 ?_
        simp -implicitDefEqProofs [h3]
    · intro he
      refine GO_AR mixed 1000 ?_
      have h3 : a = b := List.ext_getElem hl fun j h1 h2 => he j h1 h1
      simp -implicitDefEqProofs []
      refine GO_ret mixed 1000 ?_
      simp -implicitDefEqProofs [h3]
  · have hl' : ¬ (a.length : Int) = b.length := by omega
    have h3 : ¬ a = b := fun e => hl (by rw [e])
    simp -implicitDefEqProofs [rc_slices_Equal_api_Dim_api_Dim, rr_slices_Equal_api_Dim_api_Dim, hl', h3]

theorem sameC_pc (x y : Iss) (h : Sml x.dms) : PC Tryd.prog G 128 [.vptr (isa x) 0, .vptr (isa y) 0] (.bool (decide (x.dms = y.dms))) := by
  (refine pc_sheet_same_1 (Nat.le_of_ble_eq_true rfl) fun R hG hrd => GO_AR mixed 1000 ?_; subst hG)
  simp -implicitDefEqProofs [rc_sheet_same_1, rr_sheet_same_1, isa]
  (first | refine CallK.of (equalD_pc x.dms y.dms h) (by simp) ?_ | refine CallD.of (equalD_pc x.dms y.dms h) (by simp) ?_)
  simp -implicitDefEqProofs []
theorem alike_pc (a b : List (Int × Int)) (x y : Iss) (h1 : Sml a) (h2 : Sml x.dms) : PC Tryd.prog G 127 [.vsl (a.map ita), .vsl (b.map ita), .func (.func 128) [] [.vptr (isa x) 0, .vptr (isa y) 0]] (.bool (decide (a = b) && decide (x.dms = y.dms))) := by
  (refine pc_sheet_alike_api_Item (Nat.le_of_ble_eq_true rfl) fun R hG hrd => GO_AR mixed 1000 ?_; subst hG)
  simp -implicitDefEqProofs [rc_sheet_alike_api_Item, rr_sheet_alike_api_Item]
  (first | refine CallK.of (equalI_pc a b h1) (by simp) ?_ | refine CallD.of (equalI_pc a b h1) (by simp) ?_)
  by_cases e : a = b
  · simp -implicitDefEqProofs [e]
    refine CallK.of (sameC_pc x y h2) (by simp [AV.pure, isa]) ?_
    simp -implicitDefEqProofs []
  · simp -implicitDefEqProofs [e]
theorem sameS_pc (x y : Iss) (h1 : Sml x.its) (h2 : Sml x.dms) : PC Tryd.prog G 114 [.agg (isa x), .agg (isa y)] (.bool (decide (x = y))) := by
  (refine pc_sheet_same (Nat.le_of_ble_eq_true rfl) fun R hG hrd => GO_AR mixed 1000 ?_; subst hG)
  have hd : decide (x = y) = (decide (x.d = y.d) && decide (x.l = y.l) && decide (x.k = y.k) && (decide (x.its = y.its) && decide (x.dms = y.dms))) := by
    rw [Bool.eq_iff_iff]
    simp only [decide_eq_true_eq, Bool.and_eq_true]
    constructor
    · rintro rfl; simp
    · rintro ⟨⟨⟨e1, e2⟩, e3⟩, e4, e5⟩
      cases x; cases y; simp_all
  have ex : isa x = [.int .i64 x.d, .int .i64 x.l, .int .u8 x.k, .vsl (x.its.map ita), .vsl (x.dms.map dma)] := rfl
  have ey : isa y = [.int .i64 y.d, .int .i64 y.l, .int .u8 y.k, .vsl (y.its.map ita), .vsl (y.dms.map dma)] := rfl
  simp -implicitDefEqProofs [rc_sheet_same, rr_sheet_same, ex, ey, hd]
  (first | refine CallK.of (name_pc x) (by simp) ?_ | refine CallD.of (name_pc x) (by simp) ?_)
  simp -implicitDefEqProofs []
  (first | refine CallK.of (name_pc y) (by simp) ?_ | refine CallD.of (name_pc y) (by simp) ?_)
  cases e1 : decide (x.d = y.d)
  · have e1' := of_decide_eq_false e1
    simp -implicitDefEqProofs [e1']
    exact rfl
  have e1' := of_decide_eq_true e1
  cases e2 : decide (x.l = y.l)
  · have e2' := of_decide_eq_false e2
    simp -implicitDefEqProofs [e1', e2']
    exact rfl
  have e2' := of_decide_eq_true e2
  cases e3 : decide (x.k = y.k)
  · have e3' := of_decide_eq_false e3
    simp -implicitDefEqProofs [e1', e2', e3']
    exact rfl
  have e3' := of_decide_eq_true e3
  simp -implicitDefEqProofs [e1', e2', e3']
  have al := alike_pc (G := R.G) x.its y.its x y h1 h2
  rw [ex, ey, e1', e2', e3'] at al
  refine CallD.flat al (by simp [AV.flat]) (by simp) ?_
  simp -implicitDefEqProofs []
  exact rfl
end
end Go.Proofs.YtdpmioiamcgfkaaDoor

/-! What clashes, by the abstract machine. -/
namespace Go.Proofs.YtdpmioiamcgfkaaDoor
open Go.RowKit

def clB (b : List Iss) (x : Iss) : Bool := match findN x.d x.l b with
  | some y => !decide (x = y)
  | none => false
def clN (a b : List Iss) (i : Nat) : List (Int × Int) := ((a.take i).filter (clB b)).map fun x => (x.d, x.l)
theorem clN_succ {a b : List Iss} {i : Nat} (h : i < a.length) : clN a b (i + 1) = if clB b a[i] = true then clN a b i ++ [(a[i].d, a[i].l)] else clN a b i := by
  rw [clN, List.take_succ_eq_append_getElem h, List.filter_append, List.map_append]
  split
  · rename_i e; simp [clN, List.filter_cons, e]
  · rename_i e; simp [clN, List.filter_cons, e]
theorem clN_len (a b : List Iss) (i : Nat) : (clN a b i).length ≤ i := by
  simp only [clN, List.length_map]
  exact Nat.le_trans (List.length_filter_le _ _) (by simp; omega)
def bothE (a b : List Iss) : Int := if openV a = 0 then openV b else openV a
def clE (a b : List Iss) : List (Int × Int) := if bothE a b = 0 then clN a b a.length else []
def clS (a b : List Iss) (i : Nat) : St := if clN a b i = [] then ⟨[(31, .int .i64 i), (30, .int .i64 a.length), (29, .vsl (a.map isa)), (8, bkA b (nums b)), (10, .nils)], []⟩
  else ⟨[(31, .int .i64 i), (30, .int .i64 a.length), (29, .vsl (a.map isa)), (8, bkA b (nums b)), (10, .osl 53 (clN a b i).length)], [(53, .row 2 ((clN a b i).map ita))]⟩
section
variable {G : Nat → Option (List AV)}

theorem clash_pc (hG : GC G) (a b : List Iss) (ha : Wf a) (hb : Wf b) : ∃ bk, PC Tryd.prog G 87 [rega a, rega b] (.tup [.vsl ((clE a b).map ita), bk, .int .i64 (bothE a b)]) := by
  by_cases k1 : openV a = 0
  case neg =>
    refine ⟨_, PC.nzR (v := .tup [.nils, .nilp, .int .i64 (openV a)]) ?_ (by simp [nz, clE, bothE, k1]; rfl)⟩
    (refine pc_sheet_clash (Nat.le_of_ble_eq_true rfl) fun R hG hrd => GO_AR mixed 1000 ?_; subst hG)
    simp -implicitDefEqProofs [rc_sheet_clash, rr_sheet_clash, rega]
    (first | refine CallK.of (checkP_pc hG a ha) (by simp) ?_ | refine CallD.of (checkP_pc hG a ha) (by simp) ?_)
    simp -implicitDefEqProofs [k1]
  by_cases k2 : openV b = 0
  case neg =>
    refine ⟨_, PC.nzR (v := .tup [.nils, .nilp, .int .i64 (openV b)]) ?_ (by simp [nz, clE, bothE, k1, k2]; rfl)⟩
    (refine pc_sheet_clash (Nat.le_of_ble_eq_true rfl) fun R hG hrd => GO_AR mixed 1000 ?_; subst hG)
    simp -implicitDefEqProofs [rc_sheet_clash, rr_sheet_clash, rega]
    (first | refine CallK.of (checkP_pc hG a ha) (by simp) ?_ | refine CallD.of (checkP_pc hG a ha) (by simp) ?_)
    simp -implicitDefEqProofs [k1]
    (first | refine CallK.of (open_pc hG b hb) (by simp) ?_ | refine CallD.of (open_pc hG b hb) (by simp) ?_)
    simp -implicitDefEqProofs [openA, k2]
  have hL := open_listed k2
  have hO := ord_of hL
  have ev : clE a b = clN a b a.length := by simp [clE, bothE, k1, k2]
  have eb : bothE a b = 0 := by simp [bothE, k1, k2]
  rw [ev, eb]
  refine ⟨bkA b (nums b), PC.nzR (v := .tup [orNil ((clN a b a.length).map ita), bkA b (nums b), .int .i64 0]) ?_ (by simp [nz, nz_orNil, bkA])⟩
  (refine pc_sheet_clash (Nat.le_of_ble_eq_true rfl) fun R hG hrd => GO_AR mixed 1000 ?_; subst hG)
  have hs := ha.1.1
  unfold Sml at hs
  simp -implicitDefEqProofs [rc_sheet_clash, rr_sheet_clash, rega]
  (first | refine CallK.of (checkP_pc hG a ha) (by simp) ?_ | refine CallD.of (checkP_pc hG a ha) (by simp) ?_)
  simp -implicitDefEqProofs [k1]
  (first | refine CallK.of (open_pc hG b hb) (by simp) ?_ | refine CallD.of (open_pc hG b hb) (by simp) ?_)
  simp -implicitDefEqProofs [openA, k2]
  refine AR_for (clS a b) (fun _ => True) a.length ?_ trivial ?_ ?_
  · have e0 : clN a b 0 = [] := rfl
    simp only [clS, e0, if_true]
    (first | exact Weak.tm (by simp [lk, bkA, AV.keys]) | exact Weak.sub (by simp [lk, keptA, AV.keys, bkA, AV.keys]) (by simp [lk, keptO, keptA, AV.keys, bkA, AV.keys]))
  · intro i hi _
    refine GO_AR mixed 1000 ?_
    have w1 : IntKind.i64.wrap ((i : Int) + 1) = ((i + 1 : Nat) : Int) := wrapI (by omega) (by omega)
    have hx := ha.1.2 a[i] (List.getElem_mem hi)
    have hs := clN_succ (b := b) hi
    have bl := clN_len a b i
    have bb : ((clN a b i).length + 1) * 16 ≤ 70368744177664 := by omega
    have ex : isa a[i] = [.int .i64 a[i].d, .int .i64 a[i].l, .int .u8 a[i].k, .vsl (a[i].its.map ita), .vsl (a[i].dms.map dma)] := rfl
    cases q : findN a[i].d a[i].l b with
    | none =>
      have qb : clB b a[i] = false := by simp [clB, q]
      rw [if_neg (by simp [qb])] at hs
      by_cases z : clN a b i = []
      · rw [z] at hs
        simp -implicitDefEqProofs [clS, z, hi, ex]
        (first | refine CallK.of (name_pc a[i]) (by simp) ?_ | refine CallD.of (name_pc a[i]) (by simp) ?_)
        simp -implicitDefEqProofs [clS]
        (first | refine CallK.of (find_pcS b (nums b) a[i].d a[i].l (ord_map hO) hb.1.1 (find_own hL)) (by simp) ?_ | refine CallD.of (find_pcS b (nums b) a[i].d a[i].l (ord_map hO) hb.1.1 (find_own hL)) (by simp) ?_)
        simp -implicitDefEqProofs [clS, q, fndA, noIs, w1, hs]
        ((try simp only [ita, keys_bkA]); refine Weak.sub (by simp [lk, keptA, AV.keys, ita, keys_bkA]) ?_; simp only [ita, keys_bkA, List.cons_append, List.nil_append, List.mem_cons, List.not_mem_nil, or_false, forall_eq_or_imp, forall_eq, ita_kept, and_true]; (try simp [lk, keptO, keptA, AV.keys, ita, keys_bkA]))
      · simp -implicitDefEqProofs [clS, z, hi, ex]
        (first | refine CallK.of (name_pc a[i]) (by simp) ?_ | refine CallD.of (name_pc a[i]) (by simp) ?_)
        simp -implicitDefEqProofs [clS]
        (first | refine CallK.of (find_pcS b (nums b) a[i].d a[i].l (ord_map hO) hb.1.1 (find_own hL)) (by simp) ?_ | refine CallD.of (find_pcS b (nums b) a[i].d a[i].l (ord_map hO) hb.1.1 (find_own hL)) (by simp) ?_)
        simp -implicitDefEqProofs [clS, q, fndA, noIs, w1, hs, z]
        ((try simp only [ita, keys_bkA]); refine Weak.sub (by simp [lk, keptA, AV.keys, ita, keys_bkA]) ?_; simp only [ita, keys_bkA, List.cons_append, List.nil_append, List.mem_cons, List.not_mem_nil, or_false, forall_eq_or_imp, forall_eq, ita_kept, and_true]; (try simp [lk, keptO, keptA, AV.keys, ita, keys_bkA]))
    | some y =>
      have ey : isa y = [.int .i64 y.d, .int .i64 y.l, .int .u8 y.k, .vsl (y.its.map ita), .vsl (y.dms.map dma)] := rfl
      have qb : clB b a[i] = !decide (a[i] = y) := by simp [clB, q]
      rw [qb] at hs
      cases q2 : decide (a[i] = y)
      · simp only [q2, Bool.not_false, if_true] at hs
        by_cases z : clN a b i = []
        · rw [z] at hs
          simp -implicitDefEqProofs [clS, z, hi, ex]
          (first | refine CallK.of (name_pc a[i]) (by simp) ?_ | refine CallD.of (name_pc a[i]) (by simp) ?_)
          simp -implicitDefEqProofs [clS]
          (first | refine CallK.of (find_pcS b (nums b) a[i].d a[i].l (ord_map hO) hb.1.1 (find_own hL)) (by simp) ?_ | refine CallD.of (find_pcS b (nums b) a[i].d a[i].l (ord_map hO) hb.1.1 (find_own hL)) (by simp) ?_)
          simp -implicitDefEqProofs [clS, q, fndA, ey]
          (first | refine CallK.of (sameS_pc a[i] y hx.1 hx.2) (by simp) ?_ | refine CallD.of (sameS_pc a[i] y hx.1 hx.2) (by simp) ?_)
          simp -implicitDefEqProofs [clS, q2]
          (first | refine CallK.of (name_pc a[i]) (by simp) ?_ | refine CallD.of (name_pc a[i]) (by simp) ?_)
          simp -implicitDefEqProofs [clS, w1, hs]
          ((try simp only [ita, keys_bkA]); refine Weak.sub (by simp [lk, keptA, AV.keys, ita, keys_bkA]) ?_; simp only [ita, keys_bkA, List.cons_append, List.nil_append, List.mem_cons, List.not_mem_nil, or_false, forall_eq_or_imp, forall_eq, ita_kept, and_true]; (try simp [lk, keptO, keptA, AV.keys, ita, keys_bkA]))
        · simp -implicitDefEqProofs [clS, z, hi, ex]
          (first | refine CallK.of (name_pc a[i]) (by simp) ?_ | refine CallD.of (name_pc a[i]) (by simp) ?_)
          simp -implicitDefEqProofs [clS]
          (first | refine CallK.of (find_pcS b (nums b) a[i].d a[i].l (ord_map hO) hb.1.1 (find_own hL)) (by simp) ?_ | refine CallD.of (find_pcS b (nums b) a[i].d a[i].l (ord_map hO) hb.1.1 (find_own hL)) (by simp) ?_)
          simp -implicitDefEqProofs [clS, q, fndA, ey]
          (first | refine CallK.of (sameS_pc a[i] y hx.1 hx.2) (by simp) ?_ | refine CallD.of (sameS_pc a[i] y hx.1 hx.2) (by simp) ?_)
          simp -implicitDefEqProofs [clS, q2]
          (first | refine CallK.of (name_pc a[i]) (by simp) ?_ | refine CallD.of (name_pc a[i]) (by simp) ?_)
          simp -implicitDefEqProofs [clS, w1, hs, z, bb]
          ((try simp only [ita, keys_bkA]); refine Weak.sub (by simp [lk, keptA, AV.keys, ita, keys_bkA]) ?_; simp only [ita, keys_bkA, List.cons_append, List.nil_append, List.mem_cons, List.not_mem_nil, or_false, forall_eq_or_imp, forall_eq, ita_kept, and_true]; (try simp [lk, keptO, keptA, AV.keys, ita, keys_bkA]))
      · simp only [q2, Bool.not_true, Bool.false_eq_true, if_false] at hs
        by_cases z : clN a b i = []
        · rw [z] at hs
          simp -implicitDefEqProofs [clS, z, hi, ex]
          (first | refine CallK.of (name_pc a[i]) (by simp) ?_ | refine CallD.of (name_pc a[i]) (by simp) ?_)
          simp -implicitDefEqProofs [clS]
          (first | refine CallK.of (find_pcS b (nums b) a[i].d a[i].l (ord_map hO) hb.1.1 (find_own hL)) (by simp) ?_ | refine CallD.of (find_pcS b (nums b) a[i].d a[i].l (ord_map hO) hb.1.1 (find_own hL)) (by simp) ?_)
          simp -implicitDefEqProofs [clS, q, fndA, ey]
          (first | refine CallK.of (sameS_pc a[i] y hx.1 hx.2) (by simp) ?_ | refine CallD.of (sameS_pc a[i] y hx.1 hx.2) (by simp) ?_)
          simp -implicitDefEqProofs [clS, q2, w1, hs]
          ((try simp only [ita, keys_bkA]); refine Weak.sub (by simp [lk, keptA, AV.keys, ita, keys_bkA]) ?_; simp only [ita, keys_bkA, List.cons_append, List.nil_append, List.mem_cons, List.not_mem_nil, or_false, forall_eq_or_imp, forall_eq, ita_kept, and_true]; (try simp [lk, keptO, keptA, AV.keys, ita, keys_bkA]))
        · simp -implicitDefEqProofs [clS, z, hi, ex]
          (first | refine CallK.of (name_pc a[i]) (by simp) ?_ | refine CallD.of (name_pc a[i]) (by simp) ?_)
          simp -implicitDefEqProofs [clS]
          (first | refine CallK.of (find_pcS b (nums b) a[i].d a[i].l (ord_map hO) hb.1.1 (find_own hL)) (by simp) ?_ | refine CallD.of (find_pcS b (nums b) a[i].d a[i].l (ord_map hO) hb.1.1 (find_own hL)) (by simp) ?_)
          simp -implicitDefEqProofs [clS, q, fndA, ey]
          (first | refine CallK.of (sameS_pc a[i] y hx.1 hx.2) (by simp) ?_ | refine CallD.of (sameS_pc a[i] y hx.1 hx.2) (by simp) ?_)
          simp -implicitDefEqProofs [clS, q2, w1, hs, z]
          ((try simp only [ita, keys_bkA]); refine Weak.sub (by simp [lk, keptA, AV.keys, ita, keys_bkA]) ?_; simp only [ita, keys_bkA, List.cons_append, List.nil_append, List.mem_cons, List.not_mem_nil, or_false, forall_eq_or_imp, forall_eq, ita_kept, and_true]; (try simp [lk, keptO, keptA, AV.keys, ita, keys_bkA]))
  · intro _
    refine GO_AR mixed 1000 ?_
    by_cases z : clN a b a.length = []
    · simp -implicitDefEqProofs [clS, z]
      refine GO_ret mixed 1000 ?_
      simp -implicitDefEqProofs [z, orNil, bkA]
    · have pu : ((clN a b a.length).map ita).all (fun r => r.all AV.pure) = true := by simp [ita, AV.pure]
      simp -implicitDefEqProofs [clS, z]
      refine GO_ret mixed 1000 ?_
      simp -implicitDefEqProofs [z, pu, orNil, bkA]
end
end Go.Proofs.YtdpmioiamcgfkaaDoor

/-! Registers put together: plain; copies. -/
namespace Go.Proofs.YtdpmioiamcgfkaaDoor
open Go.RowKit

def mgL (a b : List Iss) : List Iss := cmpct (sortN (a ++ b))
def mgE (a b : List Iss) : List Iss × Int := if bothE a b = 0 then if clN a b a.length = [] then if openV (mgL a b) = 0 then (mgL a b, 0) else ([], openV (mgL a b)) else ([], 23) else ([], bothE a b)

theorem issB_okN {x : Iss} (h : issB x = true) : okN x := by
  simp only [issB, headB, Bool.and_eq_true, inR, decide_eq_true_eq] at h
  obtain ⟨⟨⟨⟨⟨h1, h2⟩, -⟩, -⟩, -⟩, -⟩ := h
  exact ⟨h1.1, h1.2, h2.1, h2.2⟩
theorem listed_okN {r : List Iss} (h : listedB r = true) : ∀ x ∈ r, okN x := fun x hx => by
  simp only [listedB, Bool.and_eq_true] at h
  exact issB_okN (List.all_eq_true.1 h.1.1.1.2 x hx)
theorem listed_inj {r : List Iss} (h : listedB r = true) : InjN r := fun x hx y hy e => by
  obtain ⟨e1, e2⟩ := (kyN_eq (listed_okN h x hx) (listed_okN h y hy)).1 e
  have f1 := find_own h x hx
  have f2 := find_own h y hy
  rw [e1, e2, f2] at f1
  exact (Option.some.inj f1).symm
theorem mg_inj {a b : List Iss} (ha : listedB a = true) (hb : listedB b = true) (hc : clN a b a.length = []) : InjN (a ++ b) := by
  have hcl : ∀ x ∈ a, clB b x = false := fun x hx => by
    have : (a.take a.length).filter (clB b) = [] := by simpa [clN] using hc
    rw [List.take_length, List.filter_eq_nil_iff] at this
    simpa using this x hx
  have hab : ∀ x ∈ a, ∀ y ∈ b, kyN x = kyN y → x = y := fun x hx y hy e => by
    obtain ⟨e1, e2⟩ := (kyN_eq (listed_okN ha x hx) (listed_okN hb y hy)).1 e
    have f2 := find_own hb y hy
    have := hcl x hx
    rw [clB, e1, e2, f2] at this
    simpa using this
  intro x hx y hy e
  rcases List.mem_append.1 hx with hx | hx <;> rcases List.mem_append.1 hy with hy | hy
  · exact listed_inj ha x hx y hy e
  · exact hab x hx y hy e
  · exact (hab y hy x hx e.symm).symm
  · exact listed_inj hb x hx y hy e
theorem kN_mem {l : List Iss} {x : Iss} : ∀ {p : Nat}, p ≤ l.length → x ∈ kN l p → x ∈ l
  | 0, _, h => by cases h
  | p + 1, hp, h => by
    rw [kN] at h
    split at h
    · exact kN_mem (by omega) h
    · rcases List.mem_append.1 h with h | h
      · exact kN_mem (by omega) h
      · rw [List.mem_singleton] at h
        rw [h, getD_lt (by omega : p < l.length)]
        exact List.getElem_mem _
theorem mgL_mem {a b : List Iss} {x : Iss} (h : x ∈ mgL a b) : x ∈ a ++ b := sortN_mem.1 (kN_mem (Nat.le_refl _) h)
theorem mgL_len (a b : List Iss) : (mgL a b).length ≤ a.length + b.length := by
  have := kN_len (sortN (a ++ b)) (sortN (a ++ b)).length
  rw [sortN_len, List.length_append] at this
  rw [mgL, cmpct, sortN_len, List.length_append]; exact this
theorem mgL_wf {a b : List Iss} (ha : Wf a) (hb : Wf b) (h1 : a.length ≤ 400) (h2 : b.length ≤ 400) : Wf (mgL a b) := by
  refine ⟨⟨?_, fun x hx => ?_⟩, fun x hx => ?_⟩
  · have := mgL_len a b
    unfold Sml; omega
  · rcases List.mem_append.1 (mgL_mem hx) with h | h
    · exact ha.1.2 x h
    · exact hb.1.2 x h
  · rcases List.mem_append.1 (mgL_mem hx) with h | h
    · exact ha.2 x h
    · exact hb.2 x h
section
variable {G : Nat → Option (List AV)}

theorem copied_pc (x : Iss) (h1 : Sml x.its) (h2 : Sml x.dms) : PC Tryd.prog G 73 [.agg (isa x)] (.agg (isa x)) := by
  have p1 : (x.its.map ita).all (fun r => r.all AV.pure) = true := by simp [ita, AV.pure]
  have p2 : (x.dms.map dma).all (fun r => r.all AV.pure) = true := by simp [dma, AV.pure]
  (refine pc_sheet_copied (Nat.le_of_ble_eq_true rfl) fun R hG hrd => GO_AR mixed 1000 ?_; subst hG)
  by_cases e1 : x.its = [] <;> by_cases e2 : x.dms = []
  · simp -implicitDefEqProofs [rc_sheet_copied, rr_sheet_copied, isa, e1, e2]
    refine CallND.of cloneI_pc0 (by simp) ?_
    simp -implicitDefEqProofs []
    refine CallND.of cloneD_pc0 (by simp) ?_
    simp -implicitDefEqProofs []
    exact rfl
  · simp -implicitDefEqProofs [rc_sheet_copied, rr_sheet_copied, isa, e1]
    refine CallND.of cloneI_pc0 (by simp) ?_
    simp -implicitDefEqProofs []
    refine CallND.new (cloneD_pn _ e2 h2) (by simp) (by simp [lk, St.get]) ?_
    simp -implicitDefEqProofs [p2]
    exact rfl
  · simp -implicitDefEqProofs [rc_sheet_copied, rr_sheet_copied, isa, e2]
    refine CallND.new (cloneI_pn _ e1 h1) (by simp) (by simp [lk, St.get]) ?_
    simp -implicitDefEqProofs []
    refine CallND.of cloneD_pc0 (by simp) ?_
    simp -implicitDefEqProofs [p1]
    exact rfl
  · simp -implicitDefEqProofs [rc_sheet_copied, rr_sheet_copied, isa]
    refine CallND.new (cloneI_pn _ e1 h1) (by simp) (by simp [lk, St.get]) ?_
    simp -implicitDefEqProofs []
    refine CallND.new (cloneD_pn _ e2 h2) (by simp) (by simp [lk, St.get]) ?_
    simp -implicitDefEqProofs [p1, p2]
    exact rfl
end
end Go.Proofs.YtdpmioiamcgfkaaDoor

/-! Registers put together, by the abstract machine. -/
namespace Go.Proofs.YtdpmioiamcgfkaaDoor
open Go.RowKit

def fM (l : List Iss) (i : Nat) : St := match i with
  | 0 => ⟨[(35, .int .i64 0), (34, .int .i64 l.length), (33, .vsl (l.map isa)), (9, .ptr 9 0), (4, .ptr 4 0)], [(9, .box [.nils]), (4, .box [.nils])]⟩
  | i + 1 => ⟨[(35, .int .i64 (i + 1 : Nat)), (34, .int .i64 l.length), (33, .vsl (l.map isa)), (9, .ptr 9 0), (4, .ptr 4 0)], [(9, .box [.osl 44 (i + 1)]), (4, .box [.nils]), (44, .row 5 (twR l (i + 1)))]⟩
section
variable {G : Nat → Option (List AV)}

set_option maxHeartbeats 1000000 in
theorem merge_few_pc (hG : GC G) (a b : List Iss) (ha : Wf a) (hb : Wf b) (hs : bothE a b = 0 → a.length + b.length < 20) : PC Tryd.prog G 49 [rega a, rega b] (.tup [rega (mgE a b).1, .int .i64 (mgE a b).2]) := by
  obtain ⟨bk, hcl⟩ := clash_pc hG a b ha hb
  by_cases k0 : bothE a b = 0
  case neg =>
    refine PC.nzR (v := .tup [.agg [.nils], .int .i64 (bothE a b)]) ?_ (by simp [nz, mgE, k0, rega])
    (refine pc_sheet_Merge (Nat.le_of_ble_eq_true rfl) fun R hG hrd => GO_AR mixed 1000 ?_; subst hG)
    simp -implicitDefEqProofs [rc_sheet_Merge, rr_sheet_Merge, rega]
    rw [rega, rega] at hcl
    (first | refine CallK.of (hcl) (by simp) ?_ | refine CallD.of (hcl) (by simp) ?_)
    simp -implicitDefEqProofs [k0]
  by_cases k1 : clN a b a.length = []
  case neg =>
    refine PC.nzR (v := .tup [.agg [.nils], .int .i64 23]) ?_ (by simp [nz, mgE, k0, k1, rega])
    have ev : clE a b = clN a b a.length := by simp [clE, k0]
    have hl : 0 < (clN a b a.length).length := List.length_pos_iff.2 k1
    (refine pc_sheet_Merge (Nat.le_of_ble_eq_true rfl) fun R hG hrd => GO_AR mixed 1000 ?_; subst hG)
    simp -implicitDefEqProofs [rc_sheet_Merge, rr_sheet_Merge, rega]
    rw [rega, rega, ev] at hcl
    (first | refine CallK.of (hcl) (by simp) ?_ | refine CallD.of (hcl) (by simp) ?_)
    simp -implicitDefEqProofs [k0, hl]
  have ev : clE a b = [] := by simp [clE, k0, k1]
  have oa : openV a = 0 := by
    unfold bothE at k0; split at k0
    · assumption
    · exact k0
  have ob : openV b = 0 := by simpa [bothE, oa] using k0
  have la := open_listed oa
  have lb := open_listed ob
  have sa := listed_60 la
  have sb := listed_60 lb
  have na : a ≠ [] := by rintro rfl; simp at sa
  have nb : b ≠ [] := by rintro rfl; simp at sb
  have hwf := mgL_wf ha hb (by omega) (by omega)
  have hsm := hs k0
  have hin := mg_inj la lb k1
  have hok : ∀ x ∈ a ++ b, okN x := fun x hx => by
    rcases List.mem_append.1 hx with h | h
    · exact listed_okN la x h
    · exact listed_okN lb x h
  have hcc := concat_pc (G := G) a b na nb (by omega) (by omega)
  have hwx : ∀ x ∈ a ++ b, Sml x.its ∧ Sml x.dms := fun x hx => by
    rcases List.mem_append.1 hx with h | h
    · exact ha.1.2 x h
    · exact hb.1.2 x h
  have hll : (a ++ b).length < 20 := by rw [List.length_append]; exact hsm
  have hl0 : 0 < (a ++ b).length := by rw [List.length_append]; omega
  have hsp := sort_few_pb (G := G) (a ++ b) hok hin hll
  have hcp := compact_pb (G := G) (sortN (a ++ b)) (by rw [sortN_len]; omega)
  have hck := checkP_pc hG (mgL a b) hwf
  have hmv : mgE a b = if openV (mgL a b) = 0 then (mgL a b, 0) else ([], openV (mgL a b)) := by simp [mgE, k0, k1]
  have hcm : cmpct (sortN (a ++ b)) = mgL a b := rfl
  have hmn := mgL_len a b
  rw [hmv]
  rw [rega, rega, ev, k0] at hcl
  refine PC.nzR (v := .tup [.agg [if openV (mgL a b) = 0 then .vsl ((mgL a b).map isa) else .nils], .int .i64 (openV (mgL a b))]) ?_ (by by_cases ko : openV (mgL a b) = 0 <;> simp [nz, ko, rega])
  (refine pc_sheet_Merge (Nat.le_of_ble_eq_true rfl) fun R hG hrd => GO_AR mixed 1000 ?_; subst hG)
  simp -implicitDefEqProofs [rc_sheet_Merge, rr_sheet_Merge, rega]
  (first | refine CallK.of (hcl) (by simp) ?_ | refine CallD.of (hcl) (by simp) ?_)
  simp -implicitDefEqProofs []
  unfold ccA at hcc
  generalize a ++ b = l at *
  (first | refine CallK.of (hcc) (by simp) ?_ | refine CallD.of (hcc) (by simp) ?_)
  simp -implicitDefEqProofs []
  refine AR_for (fM l) (fun _ => True) l.length (by simp only [fM]; (first | exact Weak.tm (by simp [lk]) | exact Weak.sub (by simp [lk, keptA, AV.keys]) (by simp [lk, keptO, keptA, AV.keys]))) trivial ?_ ?_
  · intro i hi _
    refine GO_AR mixed 1000 ?_
    have hx := hwx l[i] (List.getElem_mem hi)
    have tk := twR_succ hi
    have ln := twR_len (Nat.le_of_lt hi)
    have cp := copied_pc (G := R.G) l[i] hx.1 hx.2
    have ex : isa l[i] = [.int .i64 l[i].d, .int .i64 l[i].l, .int .u8 l[i].k, .vsl (l[i].its.map ita), .vsl (l[i].dms.map dma)] := rfl
    rw [ex] at cp
    cases i with
    | zero =>
      have w1 : IntKind.i64.wrap 1 = 1 := rfl
      have tk0 : twR l 1 = [[.int .i64 l[0].d, .int .i64 l[0].l, .int .u8 l[0].k, .vsl (l[0].its.map ita), .vsl (l[0].dms.map dma)]] := by rw [tk]; simp [twR]
      simp -implicitDefEqProofs [fM, hi, ex]
      (first | refine CallK.of (cp) (by simp) ?_ | refine CallD.of (cp) (by simp) ?_)
      simp -implicitDefEqProofs [w1, fM]
      refine ⟨rfl, ?_⟩
      exact Weak.sub (by simp [lk, keptA, AV.keys]) (by simp [lk, keptO, keptA, AV.keys, tk0])
    | succ i =>
      have w1 : IntKind.i64.wrap ((i : Int) + 1 + 1) = (i : Int) + 1 + 1 := wrapI (by omega) (by omega)
      have k1 : (i : Int) + 1 < l.length := by omega
      have k2 : ((i : Int) + 1).toNat = i + 1 := by omega
      have k3 : (0 : Int) ≤ (i : Int) + 1 := by omega
      have b2 : (i + 1 + 1) * 72 ≤ 70368744177664 := by omega
      simp -implicitDefEqProofs [fM, hi, k1, k2, k3, ex]
      (first | refine CallK.of (cp) (by simp) ?_ | refine CallD.of (cp) (by simp) ?_)
      simp -implicitDefEqProofs [w1, b2, ln]
      refine ⟨rfl, ?_⟩
      refine Weak.sub (by simp [lk, keptA, AV.keys]) ?_
      simp only [List.mem_cons, List.not_mem_nil, or_false, forall_eq_or_imp, forall_eq, twR_kept, and_true]
      simp [lk, keptO, keptA, AV.keys, tk]
  · intro _
    refine GO_AR mixed 1000 ?_
    obtain ⟨n, hn⟩ : ∃ n, l.length = n + 1 := ⟨l.length - 1, by omega⟩
    have e1 : twR l (n + 1) = l.map isa := by rw [← hn, twR_end]
    have k1 : ¬ (n : Int) + 1 < n + 1 := by omega
    rw [hn]
    rw [hn] at hsp
    simp -implicitDefEqProofs [fM, hn, k1, e1]
    refine GO_ret mixed 1000 ?_
    simp -implicitDefEqProofs []
    refine CallK.sem (CallSem.byref hsp (fun _ => 44) (by simp) (by simp) (by simp [St.get, lk, isa_ren]) (by simp [isa_kept]) (by simp [keptA, AV.keys, lk, fM1]) rfl (by simp [AV.ren, fM1]) rfl rfl) ?_
    simp -implicitDefEqProofs [setsB, isa_ren]
    have ls : (sortN l).length = n + 1 := by rw [sortN_len, hn]
    rw [ls] at hcp
    refine CallK.sem (CallSem.byref hcp (fun _ => 44) (by simp) (by simp) (by simp [St.get, lk, isa_ren]) (by simp [isa_kept]) (by simp [keptA, AV.keys, lk, fM2]) rfl (by simp [AV.ren, fM2]) rfl rfl) ?_
    have hcv : cmpV 1000 (sortN l) = if (mgL a b).length = n + 1 then .osl 1000 (n + 1) else .oss 1000 (n + 1) 0 (mgL a b).length := by rw [cmpV, hcm, ls]
    have hco : cmpO (sortN l) = (mgL a b).map isa ++ List.replicate (n + 1 - (mgL a b).length) zrI := by rw [cmpO, hcm, ls]
    rw [hcv, hco]
    generalize mgL a b = m at *
    by_cases hm : m.length = n + 1
    · have hr : List.replicate (n + 1 - m.length) zrI = [] := by rw [hm, Nat.sub_self]; rfl
      rw [if_pos hm, hr, List.append_nil]
      have pu := isa_pure m
      rw [rega] at hck
      simp -implicitDefEqProofs [setsB, isa_ren, AV.ren]
      refine CallK.flat hck (by simp [AV.flat]) (by simp [pu, hm]) ?_
      by_cases ko : openV m = 0
      · simp -implicitDefEqProofs [ko, pu, hm]
      · simp -implicitDefEqProofs [ko]
    · rw [if_neg hm]
      have hml : m.length ≤ n + 1 := by
        have := kN_len (sortN l) (sortN l).length
        rw [← hcm, ← ls]; exact this
      have hRl : (m.map isa ++ List.replicate (n + 1 - m.length) zrI).length = n + 1 := by simp; omega
      have hRt : (m.map isa ++ List.replicate (n + 1 - m.length) zrI).take m.length = m.map isa := by rw [List.take_left']; simp
      have hRn : AObj.ren (fun _ => 44) (.row 5 (m.map isa ++ List.replicate (n + 1 - m.length) zrI)) = .row 5 (m.map isa ++ List.replicate (n + 1 - m.length) zrI) := by
        have h := isa_ren (fun _ => 44) m
        simp only [AObj.ren, AObj.row.injEq, true_and] at h ⊢
        rw [List.map_append, h]
        simp [zrI, AV.ren]
      generalize m.map isa ++ List.replicate (n + 1 - m.length) zrI = RR at *
      have pu := isa_pure m
      rw [rega] at hck
      simp -implicitDefEqProofs [setsB, hRn, AV.ren]
      refine CallK.flat hck (by simp [AV.flat]) (by simp [pu, hRl, hRt, hml]) ?_
      by_cases ko : openV m = 0
      · simp -implicitDefEqProofs [ko, pu, hRl, hRt, hml]
      · simp -implicitDefEqProofs [ko]
end
end Go.Proofs.YtdpmioiamcgfkaaDoor

/-! The abstract machine's code of functions of the program, as a program of ours printed it; that it is theirs is proved beside each. -/
namespace Go.Proofs.YtdpmioiamcgfkaaDoor
open Go.RowKit

def rc_slices_symMergeCmpFunc_api_Issue : RCode :=
  .seq
 (.seq (.reg 0 false [ { d := some 25, op := .mov (.t 2) }, { d := some 26, op := .mov (.t 1) }, { d := some 27, op := .bin .sub (.t 25) (.t 26) }, { d := some 28, op := .bin .eql (.t 27) (.c (.int .i64 1)) }]) (.cond (.t 28)
 (.seq (.reg 1 false [ { d := some 29, op := .mov (.t 2) }, { d := some 10, op := .mov (.t 29) }])
 (.seq (.reg 2 false [ { d := some 30, op := .mov (.t 3) }, { d := some 11, op := .mov (.t 30) }]) (.seq (.block 0 (.loop (.seq
 (.seq (.reg 3 false [ { d := some 31, op := .mov (.t 10) }, { d := some 32, op := .mov (.t 11) }, { d := some 33, op := .bin .lss (.t 31) (.t 32) }]) (.cond (.t 33) (.skip) (.exit 0))) (.block 1
 (.seq (.reg 4 false [ { d := some 34, op := .mov (.t 10) }, { d := some 35, op := .mov (.t 11) }, { d := some 36, op := .bin .add (.t 34) (.t 35) }, { d := some 37, op := .conv .u64 (.t 36) }, { d := some 38, op := .vop (.sh false) [(.t 37), (.c (.int .u64 1))] }, { d := some 39, op := .conv .i64 (.t 38) }, { d := some 12, op := .mov (.t 39) }])
 (.seq (.reg 5 true [ { d := some 40, op := .mov (.t 4), aft := [] }, { d := some 41, op := .mov (.t 0), aft := [] }, { d := some 42, op := .mov (.t 12), aft := [] }, { d := some 43, op := .iaddr 5 (.t 41) (.t 42), aft := [1, 2] }, { d := some 44, op := .load true 5 (.t 43), aft := [3] }, { d := some 45, op := .mov (.t 0), aft := [] }, { d := some 46, op := .mov (.t 1), aft := [] }, { d := some 47, op := .iaddr 5 (.t 45) (.t 46), aft := [5, 6] }, { d := some 48, op := .load true 5 (.t 47), aft := [7] }, { d := some 49, op := .callv (.t 40) [.t 44, .t 48], aft := [0, 4, 8] }, { d := some 50, op := .bin .lss (.t 49) (.c (.int .i64 0)), aft := [9] }]) (.cond (.t 50) (.reg 6 false [ { d := some 51, op := .mov (.t 12) }, { d := some 52, op := .bin .add (.t 51) (.c (.int .i64 1)) }, { d := some 10, op := .mov (.t 52) }]) (.reg 7 false [ { d := some 53, op := .mov (.t 12) }, { d := some 11, op := .mov (.t 53) }])))))))) (.seq
 (.seq (.reg 8 false [ { d := some 54, op := .mov (.t 1) }, { d := some 13, op := .mov (.t 54) }]) (.block 2 (.loop (.seq
 (.seq (.reg 9 false [ { d := some 55, op := .mov (.t 13) }, { d := some 56, op := .mov (.t 10) }, { d := some 57, op := .bin .sub (.t 56) (.c (.int .i64 1)) }, { d := some 58, op := .bin .lss (.t 55) (.t 57) }]) (.cond (.t 58) (.skip) (.exit 2))) (.seq (.block 3 (.reg 11 true [ { d := some 61, op := .mov (.t 0), aft := [] }, { d := some 62, op := .mov (.t 13), aft := [] }, { d := some 63, op := .mov (.t 0), aft := [] }, { d := some 64, op := .mov (.t 13), aft := [] }, { d := some 65, op := .bin .add (.t 64) (.c (.int .i64 1)), aft := [3] }, { d := some 66, op := .mov (.t 0), aft := [] }, { d := some 67, op := .mov (.t 13), aft := [] }, { d := some 68, op := .bin .add (.t 67) (.c (.int .i64 1)), aft := [6] }, { d := some 69, op := .iaddr 5 (.t 66) (.t 68), aft := [5, 7] }, { d := some 70, op := .load true 5 (.t 69), aft := [8] }, { d := some 71, op := .mov (.t 0), aft := [] }, { d := some 72, op := .mov (.t 13), aft := [] }, { d := some 73, op := .iaddr 5 (.t 71) (.t 72), aft := [10, 11] }, { d := some 74, op := .load true 5 (.t 73), aft := [12] }, { d := some 75, op := .iaddr 5 (.t 61) (.t 62), aft := [0, 1, 0, 1, 5, 6, 7, 8, 9, 13] }, { d := none, op := .store 5 (.t 75) (.t 70), aft := [14, 9, 0, 1, 5, 6, 7, 8, 9, 13] }, { d := some 76, op := .iaddr 5 (.t 63) (.t 65), aft := [2, 4, 0, 1, 2, 3, 4, 5, 6, 7, 8, 9, 10, 11, 12, 13, 14, 15] }, { d := none, op := .store 5 (.t 76) (.t 74), aft := [16, 13, 15, 0, 1, 2, 3, 4, 5, 6, 7, 8, 9, 10, 11, 12, 13, 14, 15] }])) (.reg 10 false [ { d := some 59, op := .mov (.t 13) }, { d := some 60, op := .bin .add (.t 59) (.c (.int .i64 1)) }, { d := some 13, op := .mov (.t 60) }])))))) (.ret))))) (.skip))) (.seq
 (.seq (.reg 12 false [ { d := some 77, op := .mov (.t 3) }, { d := some 78, op := .mov (.t 2) }, { d := some 79, op := .bin .sub (.t 77) (.t 78) }, { d := some 80, op := .bin .eql (.t 79) (.c (.int .i64 1)) }]) (.cond (.t 80)
 (.seq (.reg 13 false [ { d := some 81, op := .mov (.t 1) }, { d := some 14, op := .mov (.t 81) }])
 (.seq (.reg 14 false [ { d := some 82, op := .mov (.t 2) }, { d := some 15, op := .mov (.t 82) }]) (.seq (.block 4 (.loop (.seq
 (.seq (.reg 15 false [ { d := some 83, op := .mov (.t 14) }, { d := some 84, op := .mov (.t 15) }, { d := some 85, op := .bin .lss (.t 83) (.t 84) }]) (.cond (.t 85) (.skip) (.exit 4))) (.block 5
 (.seq (.reg 16 false [ { d := some 86, op := .mov (.t 14) }, { d := some 87, op := .mov (.t 15) }, { d := some 88, op := .bin .add (.t 86) (.t 87) }, { d := some 89, op := .conv .u64 (.t 88) }, { d := some 90, op := .vop (.sh false) [(.t 89), (.c (.int .u64 1))] }, { d := some 91, op := .conv .i64 (.t 90) }, { d := some 16, op := .mov (.t 91) }])
 (.seq (.reg 17 true [ { d := some 92, op := .mov (.t 4), aft := [] }, { d := some 93, op := .mov (.t 0), aft := [] }, { d := some 94, op := .mov (.t 2), aft := [] }, { d := some 95, op := .iaddr 5 (.t 93) (.t 94), aft := [1, 2] }, { d := some 96, op := .load true 5 (.t 95), aft := [3] }, { d := some 97, op := .mov (.t 0), aft := [] }, { d := some 98, op := .mov (.t 16), aft := [] }, { d := some 99, op := .iaddr 5 (.t 97) (.t 98), aft := [5, 6] }, { d := some 100, op := .load true 5 (.t 99), aft := [7] }, { d := some 101, op := .callv (.t 92) [.t 96, .t 100], aft := [0, 4, 8] }, { d := some 102, op := .bin .lss (.t 101) (.c (.int .i64 0)), aft := [9] }, { d := some 103, op := .un .not (.t 102), aft := [10] }]) (.cond (.t 103) (.reg 18 false [ { d := some 104, op := .mov (.t 16) }, { d := some 105, op := .bin .add (.t 104) (.c (.int .i64 1)) }, { d := some 14, op := .mov (.t 105) }]) (.reg 19 false [ { d := some 106, op := .mov (.t 16) }, { d := some 15, op := .mov (.t 106) }])))))))) (.seq
 (.seq (.reg 20 false [ { d := some 107, op := .mov (.t 2) }, { d := some 17, op := .mov (.t 107) }]) (.block 6 (.loop (.seq
 (.seq (.reg 21 false [ { d := some 108, op := .mov (.t 17) }, { d := some 109, op := .mov (.t 14) }, { d := some 110, op := .bin .gtr (.t 108) (.t 109) }]) (.cond (.t 110) (.skip) (.exit 6))) (.seq (.block 7 (.reg 23 true [ { d := some 113, op := .mov (.t 0), aft := [] }, { d := some 114, op := .mov (.t 17), aft := [] }, { d := some 115, op := .mov (.t 0), aft := [] }, { d := some 116, op := .mov (.t 17), aft := [] }, { d := some 117, op := .bin .sub (.t 116) (.c (.int .i64 1)), aft := [3] }, { d := some 118, op := .mov (.t 0), aft := [] }, { d := some 119, op := .mov (.t 17), aft := [] }, { d := some 120, op := .bin .sub (.t 119) (.c (.int .i64 1)), aft := [6] }, { d := some 121, op := .iaddr 5 (.t 118) (.t 120), aft := [5, 7] }, { d := some 122, op := .load true 5 (.t 121), aft := [8] }, { d := some 123, op := .mov (.t 0), aft := [] }, { d := some 124, op := .mov (.t 17), aft := [] }, { d := some 125, op := .iaddr 5 (.t 123) (.t 124), aft := [10, 11] }, { d := some 126, op := .load true 5 (.t 125), aft := [12] }, { d := some 127, op := .iaddr 5 (.t 113) (.t 114), aft := [0, 1, 0, 1, 5, 6, 7, 8, 9, 13] }, { d := none, op := .store 5 (.t 127) (.t 122), aft := [14, 9, 0, 1, 5, 6, 7, 8, 9, 13] }, { d := some 128, op := .iaddr 5 (.t 115) (.t 117), aft := [2, 4, 0, 1, 2, 3, 4, 5, 6, 7, 8, 9, 10, 11, 12, 13, 14, 15] }, { d := none, op := .store 5 (.t 128) (.t 126), aft := [16, 13, 15, 0, 1, 2, 3, 4, 5, 6, 7, 8, 9, 10, 11, 12, 13, 14, 15] }])) (.reg 22 false [ { d := some 111, op := .mov (.t 17) }, { d := some 112, op := .bin .sub (.t 111) (.c (.int .i64 1)) }, { d := some 17, op := .mov (.t 112) }])))))) (.ret))))) (.skip)))
 (.seq (.reg 24 false [ { d := some 129, op := .mov (.t 1) }, { d := some 130, op := .mov (.t 3) }, { d := some 131, op := .bin .add (.t 129) (.t 130) }, { d := some 132, op := .conv .u64 (.t 131) }, { d := some 133, op := .vop (.sh false) [(.t 132), (.c (.int .u64 1))] }, { d := some 134, op := .conv .i64 (.t 133) }, { d := some 18, op := .mov (.t 134) }])
 (.seq (.reg 25 false [ { d := some 135, op := .mov (.t 18) }, { d := some 136, op := .mov (.t 2) }, { d := some 137, op := .bin .add (.t 135) (.t 136) }, { d := some 19, op := .mov (.t 137) }])
 (.seq (.reg 26 false [ { d := some 20, op := .mov (.c (.int .i64 0)) }, { d := some 21, op := .mov (.c (.int .i64 0)) }]) (.seq
 (.seq (.reg 27 false [ { d := some 138, op := .mov (.t 2) }, { d := some 139, op := .mov (.t 18) }, { d := some 140, op := .bin .gtr (.t 138) (.t 139) }]) (.cond (.t 140)
 (.seq (.reg 28 false [ { d := some 141, op := .mov (.t 19) }, { d := some 142, op := .mov (.t 3) }, { d := some 143, op := .bin .sub (.t 141) (.t 142) }, { d := some 20, op := .mov (.t 143) }]) (.reg 29 false [ { d := some 144, op := .mov (.t 18) }, { d := some 21, op := .mov (.t 144) }]))
 (.seq (.reg 30 false [ { d := some 145, op := .mov (.t 1) }, { d := some 20, op := .mov (.t 145) }]) (.reg 31 false [ { d := some 146, op := .mov (.t 2) }, { d := some 21, op := .mov (.t 146) }]))))
 (.seq (.reg 32 false [ { d := some 147, op := .mov (.t 19) }, { d := some 148, op := .bin .sub (.t 147) (.c (.int .i64 1)) }, { d := some 22, op := .mov (.t 148) }]) (.seq (.block 8 (.loop (.seq
 (.seq (.reg 33 false [ { d := some 149, op := .mov (.t 20) }, { d := some 150, op := .mov (.t 21) }, { d := some 151, op := .bin .lss (.t 149) (.t 150) }]) (.cond (.t 151) (.skip) (.exit 8))) (.block 9
 (.seq (.reg 34 false [ { d := some 152, op := .mov (.t 20) }, { d := some 153, op := .mov (.t 21) }, { d := some 154, op := .bin .add (.t 152) (.t 153) }, { d := some 155, op := .conv .u64 (.t 154) }, { d := some 156, op := .vop (.sh false) [(.t 155), (.c (.int .u64 1))] }, { d := some 157, op := .conv .i64 (.t 156) }, { d := some 23, op := .mov (.t 157) }])
 (.seq (.reg 35 true [ { d := some 158, op := .mov (.t 4), aft := [] }, { d := some 159, op := .mov (.t 0), aft := [] }, { d := some 160, op := .mov (.t 22), aft := [] }, { d := some 161, op := .mov (.t 23), aft := [] }, { d := some 162, op := .bin .sub (.t 160) (.t 161), aft := [2, 3] }, { d := some 163, op := .iaddr 5 (.t 159) (.t 162), aft := [1, 4] }, { d := some 164, op := .load true 5 (.t 163), aft := [5] }, { d := some 165, op := .mov (.t 0), aft := [] }, { d := some 166, op := .mov (.t 23), aft := [] }, { d := some 167, op := .iaddr 5 (.t 165) (.t 166), aft := [7, 8] }, { d := some 168, op := .load true 5 (.t 167), aft := [9] }, { d := some 169, op := .callv (.t 158) [.t 164, .t 168], aft := [0, 6, 10] }, { d := some 170, op := .bin .lss (.t 169) (.c (.int .i64 0)), aft := [11] }, { d := some 171, op := .un .not (.t 170), aft := [12] }]) (.cond (.t 171) (.reg 36 false [ { d := some 172, op := .mov (.t 23) }, { d := some 173, op := .bin .add (.t 172) (.c (.int .i64 1)) }, { d := some 20, op := .mov (.t 173) }]) (.reg 37 false [ { d := some 174, op := .mov (.t 23) }, { d := some 21, op := .mov (.t 174) }]))))))))
 (.seq (.reg 38 false [ { d := some 175, op := .mov (.t 19) }, { d := some 176, op := .mov (.t 20) }, { d := some 177, op := .bin .sub (.t 175) (.t 176) }, { d := some 24, op := .mov (.t 177) }]) (.seq
 (.seq (.reg 39 false [ { d := some 178, op := .mov (.t 20) }, { d := some 179, op := .mov (.t 2) }, { d := some 180, op := .bin .lss (.t 178) (.t 179) }, { d := some 181, op := .mov (.t 180) }, { d := some 182, op := .mov (.t 2), guard := some (181, true) }, { d := some 183, op := .mov (.t 24), guard := some (181, true) }, { d := some 184, op := .bin .lss (.t 182) (.t 183), guard := some (181, true) }, { d := some 185, op := .pick (.t 181) (.t 184) (.c (.bool false)) }]) (.cond (.t 185) (.reg 40 false [ { d := some 186, op := .mov (.t 0) }, { d := some 187, op := .mov (.t 20) }, { d := some 188, op := .mov (.t 2) }, { d := some 189, op := .mov (.t 24) }, { d := some 190, op := .mov (.t 4) }, { d := some 191, op := .call 138 [.t 186, .t 187, .t 188, .t 189, .t 190] }]) (.skip))) (.seq
 (.seq (.reg 41 false [ { d := some 192, op := .mov (.t 1) }, { d := some 193, op := .mov (.t 20) }, { d := some 194, op := .bin .lss (.t 192) (.t 193) }, { d := some 195, op := .mov (.t 194) }, { d := some 196, op := .mov (.t 20), guard := some (195, true) }, { d := some 197, op := .mov (.t 18), guard := some (195, true) }, { d := some 198, op := .bin .lss (.t 196) (.t 197), guard := some (195, true) }, { d := some 199, op := .pick (.t 195) (.t 198) (.c (.bool false)) }]) (.cond (.t 199) (.reg 42 false [ { d := some 200, op := .mov (.t 0) }, { d := some 201, op := .mov (.t 1) }, { d := some 202, op := .mov (.t 20) }, { d := some 203, op := .mov (.t 18) }, { d := some 204, op := .mov (.t 4) }, { d := some 205, op := .call 131 [.t 200, .t 201, .t 202, .t 203, .t 204] }]) (.skip)))
 (.seq (.reg 43 false [ { d := some 206, op := .mov (.t 18) }, { d := some 207, op := .mov (.t 24) }, { d := some 208, op := .bin .lss (.t 206) (.t 207) }, { d := some 209, op := .mov (.t 208) }, { d := some 210, op := .mov (.t 24), guard := some (209, true) }, { d := some 211, op := .mov (.t 3), guard := some (209, true) }, { d := some 212, op := .bin .lss (.t 210) (.t 211), guard := some (209, true) }, { d := some 213, op := .pick (.t 209) (.t 212) (.c (.bool false)) }]) (.cond (.t 213) (.reg 44 false [ { d := some 214, op := .mov (.t 0) }, { d := some 215, op := .mov (.t 18) }, { d := some 216, op := .mov (.t 24) }, { d := some 217, op := .mov (.t 3) }, { d := some 218, op := .mov (.t 4) }, { d := some 219, op := .call 131 [.t 214, .t 215, .t 216, .t 217, .t 218] }]) (.skip)))))))))))))
def rr_slices_symMergeCmpFunc_api_Issue : List RRes := []
theorem pb_slices_symMergeCmpFunc_api_Issue {G : Nat → Option (List AV)} {objs objs' : List (Nat × AObj)} {args : List AV} {v : AV} (hn : args.length ≤ Tryd.f131.ntmps) (h : ∀ R : Run, R.G = G → R.Top → AR Tryd.prog R rc_slices_symMergeCmpFunc_api_Issue ⟨iniT 0 args, objs⟩ (FinB rr_slices_symMergeCmpFunc_api_Issue v objs')) : PB Tryd.prog G 131 objs args v objs' :=
  PB_of Tryd.func131 rfl (by kernel_rfl) (rc := rc_slices_symMergeCmpFunc_api_Issue) (by kernel_rfl) (rs := rr_slices_symMergeCmpFunc_api_Issue) (by kernel_rfl) hn (fun R _ hG hr => h R hG hr)

def rc_slices_rotateCmpFunc_api_Issue : RCode :=
  .seq (.reg 0 false [ { d := some 12, op := .mov (.t 2) }, { d := some 13, op := .mov (.t 1) }, { d := some 14, op := .bin .sub (.t 12) (.t 13) }, { d := some 10, op := .mov (.t 14) }])
 (.seq (.reg 1 false [ { d := some 15, op := .mov (.t 3) }, { d := some 16, op := .mov (.t 2) }, { d := some 17, op := .bin .sub (.t 15) (.t 16) }, { d := some 11, op := .mov (.t 17) }]) (.seq (.block 0 (.loop (.seq
 (.seq (.reg 2 false [ { d := some 18, op := .mov (.t 10) }, { d := some 19, op := .mov (.t 11) }, { d := some 20, op := .bin .neq (.t 18) (.t 19) }]) (.cond (.t 20) (.skip) (.exit 0))) (.block 1
 (.seq (.reg 3 false [ { d := some 21, op := .mov (.t 10) }, { d := some 22, op := .mov (.t 11) }, { d := some 23, op := .bin .gtr (.t 21) (.t 22) }]) (.cond (.t 23)
 (.seq (.reg 4 false [ { d := some 24, op := .mov (.t 0) }, { d := some 25, op := .mov (.t 2) }, { d := some 26, op := .mov (.t 10) }, { d := some 27, op := .bin .sub (.t 25) (.t 26) }, { d := some 28, op := .mov (.t 2) }, { d := some 29, op := .mov (.t 11) }, { d := some 30, op := .mov (.t 4) }, { d := some 31, op := .call 139 [.t 24, .t 27, .t 28, .t 29, .t 30] }]) (.reg 5 false [ { d := some 32, op := .mov (.t 10) }, { d := some 33, op := .mov (.t 11) }, { d := some 34, op := .bin .sub (.t 32) (.t 33) }, { d := some 10, op := .mov (.t 34) }]))
 (.seq (.reg 6 false [ { d := some 35, op := .mov (.t 0) }, { d := some 36, op := .mov (.t 2) }, { d := some 37, op := .mov (.t 10) }, { d := some 38, op := .bin .sub (.t 36) (.t 37) }, { d := some 39, op := .mov (.t 2) }, { d := some 40, op := .mov (.t 11) }, { d := some 41, op := .bin .add (.t 39) (.t 40) }, { d := some 42, op := .mov (.t 10) }, { d := some 43, op := .bin .sub (.t 41) (.t 42) }, { d := some 44, op := .mov (.t 10) }, { d := some 45, op := .mov (.t 4) }, { d := some 46, op := .call 139 [.t 35, .t 38, .t 43, .t 44, .t 45] }]) (.reg 7 false [ { d := some 47, op := .mov (.t 11) }, { d := some 48, op := .mov (.t 10) }, { d := some 49, op := .bin .sub (.t 47) (.t 48) }, { d := some 11, op := .mov (.t 49) }])))))))) (.reg 8 false [ { d := some 50, op := .mov (.t 0) }, { d := some 51, op := .mov (.t 2) }, { d := some 52, op := .mov (.t 10) }, { d := some 53, op := .bin .sub (.t 51) (.t 52) }, { d := some 54, op := .mov (.t 2) }, { d := some 55, op := .mov (.t 10) }, { d := some 56, op := .mov (.t 4) }, { d := some 57, op := .call 139 [.t 50, .t 53, .t 54, .t 55, .t 56] }])))
def rr_slices_rotateCmpFunc_api_Issue : List RRes := []
theorem pb_slices_rotateCmpFunc_api_Issue {G : Nat → Option (List AV)} {objs objs' : List (Nat × AObj)} {args : List AV} {v : AV} (hn : args.length ≤ Tryd.f138.ntmps) (h : ∀ R : Run, R.G = G → R.Top → AR Tryd.prog R rc_slices_rotateCmpFunc_api_Issue ⟨iniT 0 args, objs⟩ (FinB rr_slices_rotateCmpFunc_api_Issue v objs')) : PB Tryd.prog G 138 objs args v objs' :=
  PB_of Tryd.func138 rfl (by kernel_rfl) (rc := rc_slices_rotateCmpFunc_api_Issue) (by kernel_rfl) (rs := rr_slices_rotateCmpFunc_api_Issue) (by kernel_rfl) hn (fun R _ hG hr => h R hG hr)

def rc_slices_swapRangeCmpFunc_api_Issue : RCode :=
  .seq (.reg 0 false [ { d := some 10, op := .mov (.c (.int .i64 0)) }]) (.block 0 (.loop (.seq
 (.seq (.reg 1 false [ { d := some 11, op := .mov (.t 10) }, { d := some 12, op := .mov (.t 3) }, { d := some 13, op := .bin .lss (.t 11) (.t 12) }]) (.cond (.t 13) (.skip) (.exit 0))) (.seq (.block 1 (.reg 3 true [ { d := some 16, op := .mov (.t 0), aft := [] }, { d := some 17, op := .mov (.t 1), aft := [] }, { d := some 18, op := .mov (.t 10), aft := [] }, { d := some 19, op := .bin .add (.t 17) (.t 18), aft := [1, 2] }, { d := some 20, op := .mov (.t 0), aft := [] }, { d := some 21, op := .mov (.t 2), aft := [] }, { d := some 22, op := .mov (.t 10), aft := [] }, { d := some 23, op := .bin .add (.t 21) (.t 22), aft := [5, 6] }, { d := some 24, op := .mov (.t 0), aft := [] }, { d := some 25, op := .mov (.t 2), aft := [] }, { d := some 26, op := .mov (.t 10), aft := [] }, { d := some 27, op := .bin .add (.t 25) (.t 26), aft := [9, 10] }, { d := some 28, op := .iaddr 5 (.t 24) (.t 27), aft := [8, 11] }, { d := some 29, op := .load true 5 (.t 28), aft := [12] }, { d := some 30, op := .mov (.t 0), aft := [] }, { d := some 31, op := .mov (.t 1), aft := [] }, { d := some 32, op := .mov (.t 10), aft := [] }, { d := some 33, op := .bin .add (.t 31) (.t 32), aft := [15, 16] }, { d := some 34, op := .iaddr 5 (.t 30) (.t 33), aft := [14, 17] }, { d := some 35, op := .load true 5 (.t 34), aft := [18] }, { d := some 36, op := .iaddr 5 (.t 16) (.t 19), aft := [0, 3, 0, 1, 2, 3, 8, 9, 10, 11, 12, 13, 19] }, { d := none, op := .store 5 (.t 36) (.t 29), aft := [20, 13, 0, 1, 2, 3, 8, 9, 10, 11, 12, 13, 19] }, { d := some 37, op := .iaddr 5 (.t 20) (.t 23), aft := [4, 7, 0, 1, 2, 3, 4, 5, 6, 7, 8, 9, 10, 11, 12, 13, 14, 15, 16, 17, 18, 19, 20, 21] }, { d := none, op := .store 5 (.t 37) (.t 35), aft := [22, 19, 21, 0, 1, 2, 3, 4, 5, 6, 7, 8, 9, 10, 11, 12, 13, 14, 15, 16, 17, 18, 19, 20, 21] }])) (.reg 2 false [ { d := some 14, op := .mov (.t 10) }, { d := some 15, op := .bin .add (.t 14) (.c (.int .i64 1)) }, { d := some 10, op := .mov (.t 15) }])))))
def rr_slices_swapRangeCmpFunc_api_Issue : List RRes := []
theorem pb_slices_swapRangeCmpFunc_api_Issue {G : Nat → Option (List AV)} {objs objs' : List (Nat × AObj)} {args : List AV} {v : AV} (hn : args.length ≤ Tryd.f139.ntmps) (h : ∀ R : Run, R.G = G → R.Top → AR Tryd.prog R rc_slices_swapRangeCmpFunc_api_Issue ⟨iniT 0 args, objs⟩ (FinB rr_slices_swapRangeCmpFunc_api_Issue v objs')) : PB Tryd.prog G 139 objs args v objs' :=
  PB_of Tryd.func139 rfl (by kernel_rfl) (rc := rc_slices_swapRangeCmpFunc_api_Issue) (by kernel_rfl) (rs := rr_slices_swapRangeCmpFunc_api_Issue) (by kernel_rfl) hn (fun R _ hG hr => h R hG hr)

end Go.Proofs.YtdpmioiamcgfkaaDoor

/-! Ranges of issues change places. -/
namespace Go.Proofs.YtdpmioiamcgfkaaDoor
open Go.RowKit

def swR (l : List Iss) (a b : Nat) : Nat → List Iss
  | 0 => l
  | i + 1 => ((swR l a b i).set (a + i) ((swR l a b i).getD (b + i) default)).set (b + i) ((swR l a b i).getD (a + i) default)
theorem swR_len (l : List Iss) (a b : Nat) : ∀ i, (swR l a b i).length = l.length
  | 0 => rfl
  | i + 1 => by rw [swR, List.length_set, List.length_set, swR_len l a b i]
/-- Blocks as they stand while they change places. -/
theorem swR_i (P A M B S : List Iss) (hAB : A.length = B.length) : ∀ i, i ≤ A.length → swR (P ++ (A ++ (M ++ (B ++ S)))) P.length (P.length + A.length + M.length) i = P ++ ((B.take i ++ A.drop i) ++ (M ++ ((A.take i ++ B.drop i) ++ S)))
  | 0, _ => by simp [swR]
  | i + 1, hi => by
    have hA : i < A.length := by omega
    have hB : i < B.length := by omega
    have ih := swR_i P A M B S hAB i (by omega)
    have tB : (B.take i).length = i := by simp; omega
    have tA : (A.take i).length = i := by simp; omega
    have eA : A.drop i = A[i] :: A.drop (i + 1) := List.drop_eq_getElem_cons hA
    have eB : B.drop i = B[i] :: B.drop (i + 1) := List.drop_eq_getElem_cons hB
    have e1 : P ++ ((B.take i ++ A.drop i) ++ (M ++ ((A.take i ++ B.drop i) ++ S))) = (P ++ B.take i) ++ A[i] :: ((A.drop (i + 1) ++ (M ++ A.take i)) ++ B[i] :: (B.drop (i + 1) ++ S)) := by
      rw [eA, eB]; simp only [List.append_assoc, List.cons_append]
    have l1 : (P ++ B.take i).length = P.length + i := by rw [List.length_append, tB]
    have l2 : (A.drop (i + 1) ++ (M ++ A.take i)).length = A.length - 1 + M.length := by simp; omega
    have g1 : ((P ++ B.take i) ++ A[i] :: ((A.drop (i + 1) ++ (M ++ A.take i)) ++ B[i] :: (B.drop (i + 1) ++ S))).getD (P.length + i) default = A[i] := by
      rw [List.getD_eq_getElem?_getD, List.getElem?_append_right (by omega), l1, Nat.sub_self]; rfl
    have g2 : ((P ++ B.take i) ++ A[i] :: ((A.drop (i + 1) ++ (M ++ A.take i)) ++ B[i] :: (B.drop (i + 1) ++ S))).getD (P.length + A.length + M.length + i) default = B[i] := by
      rw [List.getD_eq_getElem?_getD, List.getElem?_append_right (by omega), l1]
      have : P.length + A.length + M.length + i - (P.length + i) = (A.length - 1 + M.length) + 1 := by omega
      rw [this, List.getElem?_cons_succ, List.getElem?_append_right (by omega), l2, Nat.sub_self]; rfl
    rw [swR, ih, e1, g1, g2, List.set_append_right _ _ (by omega), l1, Nat.sub_self, List.set_cons_zero, List.set_append_right _ _ (by omega), l1]
    have : P.length + A.length + M.length + i - (P.length + i) = (A.length - 1 + M.length) + 1 := by omega
    rw [this, List.set_cons_succ, List.set_append_right _ _ (by omega), l2, Nat.sub_self, List.set_cons_zero]
    rw [List.take_succ_eq_append_getElem hA, List.take_succ_eq_append_getElem hB]
    simp only [List.append_assoc, List.cons_append, List.nil_append]
theorem swR_all (P A M B S : List Iss) (hAB : A.length = B.length) : swR (P ++ (A ++ (M ++ (B ++ S)))) P.length (P.length + A.length + M.length) A.length = P ++ (B ++ (M ++ (A ++ S))) := by
  have h := swR_i P A M B S hAB A.length (Nat.le_refl _)
  rw [h, List.take_length, List.drop_length, List.take_of_length_le (by omega : B.length ≤ A.length), List.drop_of_length_le (by omega : B.length ≤ A.length), List.append_nil, List.append_nil]
section
variable {G : Nat → Option (List AV)}

set_option maxHeartbeats 1000000 in
theorem swapR_pb (l : List Iss) (a b n : Nat) (hab : a + n ≤ b) (h2 : b + n ≤ l.length) (h3 : l.length ≤ 1000) :
    PB Tryd.prog G 139 [(1000, .row 5 (l.map isa))] [.osl 1000 l.length, .int .i64 a, .int .i64 b, .int .i64 n, fM1] (.tup []) [(1000, .row 5 ((swR l a b n).map isa))] := by
  (refine pb_slices_swapRangeCmpFunc_api_Issue (Nat.le_of_ble_eq_true rfl) fun R hG hrd => GO_AR mixed 1000 ?_; subst hG)
  simp -implicitDefEqProofs [rc_slices_swapRangeCmpFunc_api_Issue, rr_slices_swapRangeCmpFunc_api_Issue, fM1]
  refine AR_for (fun i => ⟨[(10, .int .i64 i), (0, .osl 1000 l.length), (1, .int .i64 a), (2, .int .i64 b), (3, .int .i64 n)], [(1000, .row 5 ((swR l a b i).map isa))]⟩) (fun _ => True) n ?_ trivial ?_ ?_
  · ((try simp only [swR]); refine Weak.sub (by simp [lk, keptA, AV.keys, swR]) ?_; simp only [swR, List.cons_append, List.nil_append, List.mem_cons, List.not_mem_nil, or_false, forall_eq_or_imp, forall_eq, isa_kept, and_true]; (try simp [lk, keptO, keptA, AV.keys, swR]))
  · intro i hi _
    refine GO_AR mixed 1000 ?_
    have w1 : IntKind.i64.wrap ((i : Int) + 1) = (i : Int) + 1 := wrapI (by omega) (by omega)
    have wa : IntKind.i64.wrap ((a : Int) + i) = (a : Int) + i := wrapI (by omega) (by omega)
    have wb : IntKind.i64.wrap ((b : Int) + i) = (b : Int) + i := wrapI (by omega) (by omega)
    have ka : ((a : Int) + i).toNat = a + i := by omega
    have kb : ((b : Int) + i).toNat = b + i := by omega
    have ka0 : (0 : Int) ≤ (a : Int) + i := by omega
    have kb0 : (0 : Int) ≤ (b : Int) + i := by omega
    have ja : a + i < l.length := by omega
    have jb : b + i < l.length := by omega
    have sc : swR l a b (i + 1) = ((swR l a b i).set (a + i) ((swR l a b i).getD (b + i) default)).set (b + i) ((swR l a b i).getD (a + i) default) := rfl
    have hQ := swR_len l a b i
    generalize hQ0 : swR l a b i = Q at *
    have qa : a + i < Q.length := by omega
    have qb : b + i < Q.length := by omega
    have ga : Q.getD (a + i) default = Q[a + i] := by simp [List.getD_eq_getElem?_getD, qa]
    have gb : Q.getD (b + i) default = Q[b + i] := by simp [List.getD_eq_getElem?_getD, qb]
    rw [ga, gb] at sc
    generalize hx : Q[a + i] = x at *
    generalize hy : Q[b + i] = y at *
    have ex : isa x = [.int .i64 x.d, .int .i64 x.l, .int .u8 x.k, .vsl (x.its.map ita), .vsl (x.dms.map dma)] := rfl
    have ey : isa y = [.int .i64 y.d, .int .i64 y.l, .int .u8 y.k, .vsl (y.its.map ita), .vsl (y.dms.map dma)] := rfl
    have hne : ¬ a = b := by omega
    have il : ∀ z : Iss, (isa z).length = 5 := fun z => rfl
    have id5 : ∀ z : Iss, (isa z).drop 5 = [] := fun z => rfl
    simp -implicitDefEqProofs [hi, wa, wb, ka, kb, ka0, kb0, ja, jb, hQ, hQ0, hx, hy, ex, ey, il, id5, w1, hne, List.getElem_set]
    refine ⟨rfl, ?_⟩
    rw [← ex, ← ey, ← List.map_set, ← List.map_set, ← sc]
    ((try simp only [and_true]); refine Weak.sub (by simp [lk, keptA, AV.keys, and_true]) ?_; simp only [and_true, List.cons_append, List.nil_append, List.mem_cons, List.not_mem_nil, or_false, forall_eq_or_imp, forall_eq, isa_kept, and_true]; (try simp [lk, keptO, keptA, AV.keys, and_true]))
  · intro _
    refine GO_AR mixed 1000 ?_
    simp -implicitDefEqProofs []
    refine GO_ret mixed 1000 ?_
    refine ⟨[], rfl, rfl, ?_⟩
    simp [frzSt, newK, frz_isa]
end
end Go.Proofs.YtdpmioiamcgfkaaDoor

/-! Two neighbouring ranges of issues change places. -/
namespace Go.Proofs.YtdpmioiamcgfkaaDoor
open Go.RowKit

/-- The list with the ranges a to m and m to b put the other way round. -/
def roS (l : List Iss) (a m b : Nat) : List Iss := l.take a ++ ((l.take b).drop m ++ ((l.take m).drop a ++ l.drop b))
/-- While it goes on: of the ranges what is still to be put round lies about the middle: i ahead of it, j behind. -/
structure RoI (l q : List Iss) (a m b i j : Nat) : Prop where
  len : q.length = l.length
  hi : i ≤ m - a
  hj : j ≤ b - m
  eq : roS q (m - i) m (m + j) = roS l a m b
/-- Pieces of a list. -/
theorem five (q : List Iss) {a b c d : Nat} (h1 : a ≤ b) (h2 : b ≤ c) (h3 : c ≤ d) (h4 : d ≤ q.length) : q = q.take a ++ ((q.take b).drop a ++ ((q.take c).drop b ++ ((q.take d).drop c ++ q.drop d))) := by
  have e : ∀ x y : Nat, x ≤ y → q.take y = q.take x ++ (q.take y).drop x := fun x y h => by
    have := (List.take_append_drop x (q.take y)).symm
    rwa [List.take_take, Nat.min_eq_left h] at this
  have e4 := (List.take_append_drop d q).symm
  rw [e c d h3, e b c h2, e a b h1] at e4
  simpa only [List.append_assoc] using e4
theorem roS_blocks (X Y Z W : List Iss) {a m b : Nat} (ha : X.length = a) (hm : a + Y.length = m) (hb : m + Z.length = b) : roS (X ++ (Y ++ (Z ++ W))) a m b = X ++ (Z ++ (Y ++ W)) := by
  have t1 : (X ++ (Y ++ (Z ++ W))).take a = X := List.take_left' ha
  have t2 : (X ++ (Y ++ (Z ++ W))).take m = X ++ Y := by rw [← List.append_assoc]; exact List.take_left' (by simp; omega)
  have t3 : (X ++ (Y ++ (Z ++ W))).take b = (X ++ Y) ++ Z := by rw [← List.append_assoc, ← List.append_assoc]; exact List.take_left' (by simp; omega)
  have t4 : (X ++ (Y ++ (Z ++ W))).drop b = W := by rw [← List.append_assoc, ← List.append_assoc]; exact List.drop_left' (by simp; omega)
  rw [roS, t1, t2, t3, t4, List.drop_left' ha, List.drop_left' (by simp; omega : (X ++ Y).length = m)]
theorem ro_gt {q : List Iss} {m i j : Nat} (h : j < i) (hi : i ≤ m) (hj : m + j ≤ q.length) : roS (swR q (m - i) m j) (m - (i - j)) m (m + j) = roS q (m - i) m (m + j) := by
  have e := five q (a := m - i) (b := m - i + j) (c := m) (d := m + j) (by omega) (by omega) (by omega) hj
  have lP : (q.take (m - i)).length = m - i := by simp; omega
  have lA : ((q.take (m - i + j)).drop (m - i)).length = j := by simp; omega
  have lM : ((q.take m).drop (m - i + j)).length = i - j := by simp; omega
  have lB : ((q.take (m + j)).drop m).length = j := by simp; omega
  generalize q.take (m - i) = P at *
  generalize (q.take (m - i + j)).drop (m - i) = A at *
  generalize (q.take m).drop (m - i + j) = M at *
  generalize (q.take (m + j)).drop m = B at *
  generalize q.drop (m + j) = S at *
  subst e
  have s := swR_all P A M B S (by omega)
  rw [lP, lA, lM] at s
  have e1 : m - i + j + (i - j) = m := by omega
  rw [e1] at s
  rw [s, ← List.append_assoc P B, roS_blocks (P ++ B) M A S (by simp; omega) (by omega) (by omega)]
  have r2 := roS_blocks P (A ++ M) B S (a := m - i) (m := m) (b := m + j) lP (by simp; omega) (by omega)
  simp only [List.append_assoc] at r2 ⊢
  rw [r2]
theorem ro_lt {q : List Iss} {m i j : Nat} (h : i < j) (hi : i ≤ m) (hj : m + j ≤ q.length) : roS (swR q (m - i) (m + j - i) i) (m - i) m (m + (j - i)) = roS q (m - i) m (m + j) := by
  have e := five q (a := m - i) (b := m) (c := m + j - i) (d := m + j) (by omega) (by omega) (by omega) hj
  have lP : (q.take (m - i)).length = m - i := by simp; omega
  have lA : ((q.take m).drop (m - i)).length = i := by simp; omega
  have lM : ((q.take (m + j - i)).drop m).length = j - i := by simp; omega
  have lB : ((q.take (m + j)).drop (m + j - i)).length = i := by simp; omega
  generalize q.take (m - i) = P at *
  generalize (q.take m).drop (m - i) = A at *
  generalize (q.take (m + j - i)).drop m = M at *
  generalize (q.take (m + j)).drop (m + j - i) = B at *
  generalize q.drop (m + j) = S at *
  subst e
  have s := swR_all P A M B S (by omega)
  rw [lP, lA, lM] at s
  have e1 : m - i + i + (j - i) = m + j - i := by omega
  rw [e1] at s
  have r1 := roS_blocks P B M (A ++ S) (a := m - i) (m := m) (b := m + (j - i)) lP (by omega) (by omega)
  have r2 := roS_blocks P A (M ++ B) S (a := m - i) (m := m) (b := m + j) lP (by omega) (by simp; omega)
  simp only [List.append_assoc] at r1 r2
  rw [s, r1, r2]
theorem ro_eq {q : List Iss} {m i : Nat} (hi : i ≤ m) (hj : m + i ≤ q.length) : swR q (m - i) m i = roS q (m - i) m (m + i) := by
  have e := five q (a := m - i) (b := m) (c := m) (d := m + i) (by omega) (by omega) (by omega) hj
  have lP : (q.take (m - i)).length = m - i := by simp; omega
  have lA : ((q.take m).drop (m - i)).length = i := by simp; omega
  have lM : (q.take m).drop m = [] := List.drop_of_length_le (by simp; omega)
  have lB : ((q.take (m + i)).drop m).length = i := by simp; omega
  rw [lM] at e
  generalize q.take (m - i) = P at *
  generalize (q.take m).drop (m - i) = A at *
  generalize (q.take (m + i)).drop m = B at *
  generalize q.drop (m + i) = S at *
  subst e
  have s := swR_all P A [] B S (by omega)
  rw [lP, lA] at s
  have e1 : m - i + i + ([] : List Iss).length = m := by simp; omega
  rw [e1] at s
  have r2 := roS_blocks P A B S (a := m - i) (m := m) (b := m + i) lP (by omega) (by omega)
  simp only [List.nil_append] at s ⊢
  rw [s, r2]
section
variable {G : Nat → Option (List AV)}

set_option maxHeartbeats 1000000 in
theorem rotate_pb (l : List Iss) (a m b : Nat) (h1 : a < m) (h2 : m < b) (h4 : b ≤ l.length) (h3 : l.length ≤ 1000) :
    PB Tryd.prog G 138 [(1000, .row 5 (l.map isa))] [.osl 1000 l.length, .int .i64 a, .int .i64 m, .int .i64 b, fM1] (.tup []) [(1000, .row 5 ((roS l a m b).map isa))] := by
  (refine pb_slices_rotateCmpFunc_api_Issue (Nat.le_of_ble_eq_true rfl) fun R hG hrd => GO_AR mixed 1000 ?_; subst hG)
  have w1 : IntKind.i64.wrap ((m : Int) - a) = ((m - a : Nat) : Int) := by rw [wrapI (by omega) (by omega)]; omega
  have w2 : IntKind.i64.wrap ((b : Int) - m) = ((b - m : Nat) : Int) := by rw [wrapI (by omega) (by omega)]; omega
  simp -implicitDefEqProofs [rc_slices_rotateCmpFunc_api_Issue, rr_slices_rotateCmpFunc_api_Issue, fM1, w1, w2]
  have e0 : roS l (m - (m - a)) m (m + (b - m)) = roS l a m b := by
    have q1 : m - (m - a) = a := by omega
    have q2 : m + (b - m) = b := by omega
    rw [q1, q2]
  refine AR_loop (fun p : List Iss × Nat × Nat => ⟨[(10, .int .i64 p.2.1), (11, .int .i64 p.2.2), (0, .osl 1000 l.length), (2, .int .i64 m), (4, .func (.func 92) [] [])], [(1000, .row 5 (p.1.map isa))]⟩)
    (fun p => RoI l p.1 a m b p.2.1 p.2.2 ∧ 0 < p.2.1 ∧ 0 < p.2.2) (fun p => p.2.1 + p.2.2) (l, m - a, b - m) ?_ ⟨⟨rfl, Nat.le_refl _, Nat.le_refl _, e0⟩, Nat.sub_pos_of_lt h1, Nat.sub_pos_of_lt h2⟩ ?_
  · ((try simp only [and_true]); refine Weak.sub (by simp [lk, keptA, AV.keys, and_true]) ?_; simp only [and_true, List.cons_append, List.nil_append, List.mem_cons, List.not_mem_nil, or_false, forall_eq_or_imp, forall_eq, isa_kept, and_true]; (try simp [lk, keptO, keptA, AV.keys, and_true]))
  · rintro ⟨q, i, j⟩ ⟨hI, hi0, hj0⟩
    refine GO_AR mixed 1000 ?_
    have hql := hI.len
    have hi := hI.hi
    have hj := hI.hj
    have heq := hI.eq
    simp only at hql hi hj heq hi0 hj0 ⊢
    have wmi : IntKind.i64.wrap ((m : Int) - i) = ((m - i : Nat) : Int) := by rw [wrapI (by omega) (by omega)]; omega
    rcases Nat.lt_trichotomy i j with hlt | he | hgt
    · have k1 : ¬ (i : Int) = j := by omega
      have k2 : ¬ (j : Int) < i := by omega
      have k1' : ¬ i = j := by omega
      have k2' : ¬ j < i := by omega
      have wj : IntKind.i64.wrap ((m : Int) + j) = (m : Int) + j := wrapI (by omega) (by omega)
      have wk : IntKind.i64.wrap ((m : Int) + j - i) = ((m + j - i : Nat) : Int) := by rw [wrapI (by omega) (by omega)]; omega
      have wd : IntKind.i64.wrap ((j : Int) - i) = ((j - i : Nat) : Int) := by rw [wrapI (by omega) (by omega)]; omega
      have hp := swapR_pb (G := R.G) q (m - i) (m + j - i) i (by omega) (by omega) (by omega)
      have hro := ro_lt (q := q) (m := m) hlt (by omega) (by omega)
      rw [hql] at hp
      have hsl := swR_len q (m - i) (m + j - i) i
      generalize hN1 : m - i = N1 at *
      generalize hN2 : m + j - i = N2 at *
      simp -implicitDefEqProofs [k1, k2, k1', k2', wmi, wj, wk]
      refine CallK.sem (CallSem.byref hp id (by simp) (by simp) (by simp [St.get, lk, isa_ren]) (by simp [isa_kept]) (by simp [keptA, AV.keys, lk, fM1]) rfl (by simp [AV.ren, fM1]) rfl rfl) ?_
      simp -implicitDefEqProofs [setsB, isa_ren, wd]
      refine ⟨(swR q N1 N2 i, i, j - i), ?_, ⟨⟨by simp only; omega, hi, by simp only; omega, by simp only; rw [hN1, hro, heq]⟩, hi0, by simp only; omega⟩, by simp only; omega⟩
      ((try simp only [and_true]); refine Weak.sub (by simp [lk, keptA, AV.keys, and_true]) ?_; simp only [and_true, List.cons_append, List.nil_append, List.mem_cons, List.not_mem_nil, or_false, forall_eq_or_imp, forall_eq, isa_kept, and_true]; (try simp [lk, keptO, keptA, AV.keys, and_true]))
    · have k1 : (i : Int) = j := by omega
      have hp := swapR_pb (G := R.G) q (m - i) m i (by omega) (by omega) (by omega)
      have hro := ro_eq (q := q) (m := m) (i := i) (by omega) (by omega)
      rw [he] at hro
      rw [he] at hp
      rw [he] at heq wmi
      rw [hro, heq, hql] at hp
      generalize hN1 : m - j = N1 at *
      simp -implicitDefEqProofs [k1, he]
      refine GO_ret mixed 1000 ?_
      simp -implicitDefEqProofs [wmi]
      refine CallK.sem (CallSem.byref hp id (by simp) (by simp) (by simp [St.get, lk, isa_ren]) (by simp [isa_kept]) (by simp [keptA, AV.keys, lk, fM1]) rfl (by simp [AV.ren, fM1]) rfl rfl) ?_
      simp -implicitDefEqProofs [setsB, isa_ren]
      refine ⟨[], rfl, rfl, ?_⟩
      simp [frzSt, newK, frz_isa]
    · have k1 : ¬ (i : Int) = j := by omega
      have k2 : (j : Int) < i := by omega
      have k1' : ¬ i = j := by omega
      have wd : IntKind.i64.wrap ((i : Int) - j) = ((i - j : Nat) : Int) := by rw [wrapI (by omega) (by omega)]; omega
      have hp := swapR_pb (G := R.G) q (m - i) m j (by omega) (by omega) (by omega)
      have hro := ro_gt (q := q) (m := m) hgt (by omega) (by omega)
      rw [hql] at hp
      have hsl := swR_len q (m - i) m j
      generalize hN1 : m - i = N1 at *
      simp -implicitDefEqProofs [k1, k2, k1', hgt, wmi]
      refine CallK.sem (CallSem.byref hp id (by simp) (by simp) (by simp [St.get, lk, isa_ren]) (by simp [isa_kept]) (by simp [keptA, AV.keys, lk, fM1]) rfl (by simp [AV.ren, fM1]) rfl rfl) ?_
      simp -implicitDefEqProofs [setsB, isa_ren, wd]
      refine ⟨(swR q N1 m j, i - j, j), ?_, ⟨⟨by simp only; omega, by simp only; omega, hj, by simp only; rw [hro, heq]⟩, by simp only; omega, hj0⟩, by simp only; omega⟩
      ((try simp only [and_true]); refine Weak.sub (by simp [lk, keptA, AV.keys, and_true]) ?_; simp only [and_true, List.cons_append, List.nil_append, List.mem_cons, List.not_mem_nil, or_false, forall_eq_or_imp, forall_eq, isa_kept, and_true]; (try simp [lk, keptO, keptA, AV.keys, and_true]))
end
end Go.Proofs.YtdpmioiamcgfkaaDoor

/-! Two ranges in order put together: plain. -/
namespace Go.Proofs.YtdpmioiamcgfkaaDoor
open Go.RowKit

theorem sortN_id {l : List Iss} (hi : InjN l) (h : SrtN l) : sortN l = l := sortN_eq hi (List.Perm.refl _) h
theorem srtN_app {X Y : List Iss} (hx : SrtN X) (hy : SrtN Y) (hc : ∀ x ∈ X, ∀ y ∈ Y, kyN x ≤ kyN y) : SrtN (X ++ Y) := List.pairwise_append.2 ⟨hx, hy, hc⟩
/-- After the rotation each half is put in order by itself. -/
theorem sym_law {A1 A2 B1 B2 : List Iss} (hi : InjN (A1 ++ (A2 ++ (B1 ++ B2)))) (hc : ∀ x ∈ A1 ++ B1, ∀ y ∈ A2 ++ B2, kyN x ≤ kyN y) :
    sortN (A1 ++ (A2 ++ (B1 ++ B2))) = sortN (A1 ++ B1) ++ sortN (A2 ++ B2) := by
  refine sortN_eq hi ?_ (srtN_app (sortN_srt _) (sortN_srt _) fun x hx y hy => hc x (sortN_mem.1 hx) y (sortN_mem.1 hy))
  refine ((sortN_perm _).append (sortN_perm _)).trans ?_
  rw [List.append_assoc]
  refine List.Perm.append_left A1 ?_
  rw [← List.append_assoc, ← List.append_assoc]
  exact (List.perm_append_comm).append_right B2
/-- A range put in order, by pieces. -/
theorem srtS_blocks (P M S : List Iss) {a b : Nat} (ha : P.length = a) (hb : a + M.length = b) : srtS (P ++ (M ++ S)) a b = P ++ (sortN M ++ S) := by
  have t1 : (P ++ (M ++ S)).take a = P := List.take_left' ha
  have t2 : (P ++ (M ++ S)).take b = P ++ M := by rw [← List.append_assoc]; exact List.take_left' (by simp; omega)
  have t3 : (P ++ (M ++ S)).drop b = S := by rw [← List.append_assoc]; exact List.drop_left' (by simp; omega)
  rw [srtS, t1, t2, t3, List.drop_left' ha]
theorem sym_all (P A1 A2 B1 B2 S : List Iss) {a b c m e : Nat} (h1 : P.length = a) (h2 : a + (A1.length + B1.length) = c) (h3 : c + (A2.length + B2.length) = b) (h4 : a + A1.length = m) (h5 : m + A2.length + B1.length = e)
    (hi : InjN (A1 ++ (A2 ++ (B1 ++ B2)))) (hc : ∀ x ∈ A1 ++ B1, ∀ y ∈ A2 ++ B2, kyN x ≤ kyN y) :
    srtS (srtS (roS (P ++ (A1 ++ (A2 ++ (B1 ++ (B2 ++ S))))) m (m + A2.length) e) a c) c b = srtS (P ++ (A1 ++ (A2 ++ (B1 ++ (B2 ++ S))))) a b := by
  have r := roS_blocks (P ++ A1) A2 B1 (B2 ++ S) (a := m) (m := m + A2.length) (b := e) (by simp; omega) rfl (by omega)
  simp only [List.append_assoc] at r
  rw [r]
  have s1 := srtS_blocks P (A1 ++ B1) (A2 ++ (B2 ++ S)) (a := a) (b := c) h1 (by simp; omega)
  simp only [List.append_assoc] at s1
  rw [s1]
  have s2 := srtS_blocks (P ++ sortN (A1 ++ B1)) (A2 ++ B2) S (a := c) (b := b) (by simp [sortN_len]; omega) (by simp; omega)
  simp only [List.append_assoc] at s2
  rw [s2]
  have s3 := srtS_blocks P (A1 ++ (A2 ++ (B1 ++ B2))) S (a := a) (b := b) h1 (by simp; omega)
  simp only [List.append_assoc] at s3
  rw [s3, sym_law hi hc, List.append_assoc]
/-- The binary search's bound parts the pairs: what stands ahead of it on the left, and behind on the right, is not less. -/
theorem cross_ok {A1 A2 B1 B2 : List Iss} (hA : SrtN (A1 ++ A2)) (hB : SrtN (B1 ++ B2)) (h1 : A1 = [] ∨ B2 = [] ∨ ∃ x y, x ∈ A1.getLast? ∧ y ∈ B2.head? ∧ kyN x ≤ kyN y) (h2 : B1 = [] ∨ A2 = [] ∨ ∃ x y, x ∈ B1.getLast? ∧ y ∈ A2.head? ∧ kyN x ≤ kyN y) :
    ∀ x ∈ A1 ++ B1, ∀ y ∈ A2 ++ B2, kyN x ≤ kyN y := by
  obtain ⟨a1, a2, a3⟩ := List.pairwise_append.1 hA
  obtain ⟨b1, b2, b3⟩ := List.pairwise_append.1 hB
  have last : ∀ {X : List Iss} {z : Iss}, SrtN X → z ∈ X.getLast? → ∀ x ∈ X, kyN x ≤ kyN z := fun {X z} hX hz x hx => by
    obtain ⟨Y, rfl⟩ := List.getLast?_eq_some_iff.1 hz
    rcases List.mem_append.1 hx with h | h
    · exact (List.pairwise_append.1 hX).2.2 x h z (List.mem_singleton_self _)
    · rw [List.mem_singleton.1 h]; exact Int.le_refl _
  have head : ∀ {X : List Iss} {z : Iss}, SrtN X → z ∈ X.head? → ∀ x ∈ X, kyN z ≤ kyN x := fun {X z} hX hz x hx => by
    match X, hz with
    | w :: X, hz =>
      obtain rfl : w = z := by simpa using hz
      rcases List.mem_cons.1 hx with rfl | h
      · exact Int.le_refl _
      · exact (List.pairwise_cons.1 hX).1 x h
  intro x hx y hy
  rcases List.mem_append.1 hx with hx | hx <;> rcases List.mem_append.1 hy with hy | hy
  · exact a3 x hx y hy
  · rcases h1 with rfl | rfl | ⟨u, v, hu, hv, h⟩
    · cases hx
    · cases hy
    · exact Int.le_trans (last a1 hu x hx) (Int.le_trans h (head b2 hv y hy))
  · rcases h2 with rfl | rfl | ⟨u, v, hu, hv, h⟩
    · cases hx
    · cases hy
    · exact Int.le_trans (last b1 hu x hx) (Int.le_trans h (head a2 hv y hy))
  · exact b3 x hx y hy
end Go.Proofs.YtdpmioiamcgfkaaDoor

/-! One issue ahead of a range in order is put in. -/
namespace Go.Proofs.YtdpmioiamcgfkaaDoor
open Go.RowKit

/-- The first of a range, moved behind p of the others. -/
def mrS (l : List Iss) (a b p : Nat) : List Iss := l.take a ++ (((l.take b).drop (a + 1)).take p ++ (l.getD a default :: (((l.take b).drop (a + 1)).drop p ++ l.drop b)))
theorem mrB_len {l : List Iss} {a b : Nat} (h : b ≤ l.length) : ((l.take b).drop (a + 1)).length = b - (a + 1) := by simp; omega
theorem mrS_zero {l : List Iss} {a b : Nat} (h1 : a < b) (h2 : b ≤ l.length) : mrS l a b 0 = l := by
  have e := five l (a := a) (b := a + 1) (c := a + 1) (d := b) (by omega) (Nat.le_refl _) (by omega) h2
  have e2 : (l.take (a + 1)).drop a = [l.getD a default] := by
    have ha : a < l.length := by omega
    rw [List.take_succ_eq_append_getElem ha, List.drop_left' (by simp; omega)]
    simp [List.getD_eq_getElem?_getD, ha]
  have e3 : (l.take (a + 1)).drop (a + 1) = [] := List.drop_of_length_le (by simp; omega)
  rw [e2, e3] at e
  rw [mrS, List.take_zero, List.drop_zero]
  exact e.symm
theorem mrS_len {l : List Iss} {a b p : Nat} (h1 : a < b) (h2 : b ≤ l.length) (hp : p ≤ b - (a + 1)) : (mrS l a b p).length = l.length := by
  have := mrB_len (a := a) h2
  simp only [mrS, List.length_append, List.length_cons, List.length_take, List.length_drop] at this ⊢
  omega
theorem mrS_at {l : List Iss} {a b p : Nat} (h1 : a < b) (h2 : b ≤ l.length) (hp : p < b - (a + 1)) :
    ∃ y, ((l.take b).drop (a + 1))[p]? = some y ∧ (mrS l a b p)[a + p]? = some (l.getD a default) ∧ (mrS l a b p)[a + p + 1]? = some y ∧ ((mrS l a b p).set (a + p) y).set (a + p + 1) (l.getD a default) = mrS l a b (p + 1) := by
  have hB := mrB_len (a := a) h2
  have lP : (l.take a).length = a := by simp; omega
  unfold mrS
  generalize (l.take b).drop (a + 1) = B at *
  generalize l.take a = P at *
  generalize l.drop b = S at *
  generalize l.getD a default = x at *
  have hb : p < B.length := by omega
  have tB : (B.take p).length = p := by simp; omega
  have eB : B.drop p = B[p] :: B.drop (p + 1) := List.drop_eq_getElem_cons hb
  have lD : (P ++ B.take p).length = a + p := by rw [List.length_append, lP, tB]
  refine ⟨B[p], by simp [hb], ?_, ?_, ?_⟩
  · rw [← List.append_assoc, List.getElem?_append_right (by omega), lD, Nat.sub_self]; rfl
  · rw [← List.append_assoc, List.getElem?_append_right (by omega), lD, eB]
    have : a + p + 1 - (a + p) = 0 + 1 := by omega
    rw [this, List.getElem?_cons_succ]; rfl
  · rw [← List.append_assoc, eB, List.set_append_right _ _ (by omega), lD, Nat.sub_self, List.set_cons_zero, List.set_append_right _ _ (by omega), lD]
    have : a + p + 1 - (a + p) = 0 + 1 := by omega
    rw [this, List.cons_append, List.set_cons_succ, List.set_cons_zero, List.take_succ_eq_append_getElem hb]
    simp only [List.append_assoc, List.cons_append, List.nil_append]
theorem mrS_end {l : List Iss} {a b p : Nat} (hi : InjN l) (h1 : a < b) (h2 : b ≤ l.length) (hs : SrtN ((l.take b).drop (a + 1))) (hl : ∀ y ∈ ((l.take b).drop (a + 1)).take p, kyN y < kyN (l.getD a default)) (hr : ∀ y ∈ ((l.take b).drop (a + 1)).drop p, ¬ kyN y < kyN (l.getD a default)) :
    mrS l a b p = srtS l a b := by
  have ha : a < l.length := by omega
  have ex : l.getD a default = l[a] := (by simp [List.getD_eq_getElem?_getD, ha])
  have e4 : (l.take b).drop a = l.getD a default :: (l.take b).drop (a + 1) := by
    rw [List.drop_eq_getElem_cons (by simp; omega : a < (l.take b).length), List.getElem_take, ex]
  have hm : ∀ x ∈ (l.take b).drop a, x ∈ l := fun y hy => List.mem_of_mem_take (List.mem_of_mem_drop hy)
  rw [srtS, mrS]
  rw [sortN_eq (s := ((l.take b).drop (a + 1)).take p ++ l.getD a default :: ((l.take b).drop (a + 1)).drop p) (hi.sub hm)]
  · simp [List.append_assoc]
  · rw [e4]
    refine List.perm_middle.trans ?_
    rw [List.take_append_drop]
  · generalize (l.take b).drop (a + 1) = B at *
    unfold SrtN at hs ⊢
    rw [← List.take_append_drop p B, List.pairwise_append] at hs
    obtain ⟨t1, t2, t3⟩ := hs
    rw [List.pairwise_append]
    refine ⟨t1, List.pairwise_cons.2 ⟨fun y hy => by have := hr y hy; omega, t2⟩, fun u hu v hv => ?_⟩
    rcases List.mem_cons.1 hv with rfl | hv
    · have := hl u hu; omega
    · exact t3 u hu v hv
end Go.Proofs.YtdpmioiamcgfkaaDoor

/-! symMerge where one of the ranges is a single issue. -/
namespace Go.Proofs.YtdpmioiamcgfkaaDoor
open Go.RowKit

theorem rng_at {l : List Iss} {s b k : Nat} (h1 : s ≤ k) (h2 : k < b) (h3 : b ≤ l.length) : ((l.take b).drop s)[k - s]? = some (l[k]'(by omega)) := by
  rw [List.getElem?_drop, show s + (k - s) = k by omega, List.getElem?_take_of_lt h2, List.getElem?_eq_getElem (by omega)]
theorem take_lt {B : List Iss} {p : Nat} {v : Int} {z : Iss} (hs : SrtN B) (hz : B[p]? = some z) (h : kyN z < v) : ∀ y ∈ B.take (p + 1), kyN y < v := fun y hy => by
  obtain ⟨hp, rfl⟩ := List.getElem?_eq_some_iff.1 hz
  obtain ⟨j, hj, rfl⟩ := List.getElem_of_mem hy
  rw [List.getElem_take]
  have hj2 : j ≤ p := by simp at hj; omega
  rcases Nat.lt_or_ge j p with h1 | h1
  · have := List.pairwise_iff_getElem.1 hs j p (by omega) hp h1
    omega
  · obtain rfl : j = p := by omega
    exact h
theorem drop_ge {B : List Iss} {p : Nat} {v : Int} {z : Iss} (hs : SrtN B) (hz : B[p]? = some z) (h : ¬ kyN z < v) : ∀ y ∈ B.drop p, ¬ kyN y < v := fun y hy => by
  obtain ⟨hp, rfl⟩ := List.getElem?_eq_some_iff.1 hz
  obtain ⟨j, hj, rfl⟩ := List.getElem_of_mem hy
  rw [List.getElem_drop]
  simp only [List.length_drop] at hj
  rcases Nat.lt_or_ge 0 j with h1 | h1
  · have := List.pairwise_iff_getElem.1 hs p (p + j) hp (by omega) (by omega)
    omega
  · obtain rfl : j = 0 := by omega
    exact h
/-- How far the search has come. -/
def BsI (l : List Iss) (a b : Nat) (p : Nat × Nat) : Prop := a + 1 ≤ p.1 ∧ p.1 ≤ p.2 ∧ p.2 ≤ b ∧ (∀ y ∈ ((l.take b).drop (a + 1)).take (p.1 - (a + 1)), kyN y < kyN (l.getD a default)) ∧ (∀ y ∈ ((l.take b).drop (a + 1)).drop (p.2 - (a + 1)), ¬ kyN y < kyN (l.getD a default))
section
variable {G : Nat → Option (List AV)}

set_option maxHeartbeats 2000000 in
theorem sym1_pb (l : List Iss) (a b : Nat) (hv : ∀ x ∈ l, okN x) (hin : InjN l) (h1 : a + 1 ≤ b) (h2 : b ≤ l.length) (h3 : l.length ≤ 1000) (hs : SrtN ((l.take b).drop (a + 1))) :
    PB Tryd.prog G 131 [(1000, .row 5 (l.map isa))] [.osl 1000 l.length, .int .i64 a, .int .i64 (a + 1 : Nat), .int .i64 b, fM1] (.tup []) [(1000, .row 5 ((srtS l a b).map isa))] := by
  (refine pb_slices_symMergeCmpFunc_api_Issue (Nat.le_of_ble_eq_true rfl) fun R hG hrd => GO_AR mixed 1000 ?_; subst hG)
  have ha : a < l.length := by omega
  have ex0 : l.getD a default = l[a] := by simp [List.getD_eq_getElem?_getD, ha]
  have w1 : IntKind.i64.wrap ((a : Int) + 1 - a) = 1 := by rw [wrapI (by omega) (by omega)]; omega
  have c1 : IntKind.i64.wrap 1 = 1 := rfl
  have c2 : (a : Int) + 1 - a = 1 := by omega
  simp -implicitDefEqProofs [rc_slices_symMergeCmpFunc_api_Issue, rr_slices_symMergeCmpFunc_api_Issue, fM1, w1, c1, c2]
  refine AR_loop (fun p : Nat × Nat => ⟨[(10, .int .i64 p.1), (11, .int .i64 p.2), (0, .osl 1000 l.length), (1, .int .i64 a), (4, .func (.func 92) [] [])], [(1000, .row 5 (l.map isa))]⟩)
    (BsI l a b) (fun p => p.2 - p.1) (a + 1, b) ?_ ⟨Nat.le_refl _, h1, Nat.le_refl _, fun y hy => by simp at hy, fun y hy => by rw [List.drop_of_length_le (by simp; omega)] at hy; cases hy⟩ ?_
  · ((try simp only [and_true]); refine Weak.sub (by simp [lk, keptA, AV.keys, and_true]) ?_; simp only [and_true, List.cons_append, List.nil_append, List.mem_cons, List.not_mem_nil, or_false, forall_eq_or_imp, forall_eq, isa_kept, and_true]; (try simp [lk, keptO, keptA, AV.keys, and_true]))
  · rintro ⟨i, j⟩ ⟨q1, q2, q3, q4, q5⟩
    refine GO_AR mixed 1000 ?_
    simp only at q1 q2 q3 q4 q5
    by_cases hij : i < j
    · obtain ⟨h, hh⟩ : ∃ h, h = (i + j) / 2 := ⟨_, rfl⟩
      have hw := half_wrap (i := i) (j := j) (by omega)
      rw [← hh] at hw
      have b1 : h < l.length := by omega
      have hg := rng_at (l := l) (s := a + 1) (b := b) (k := h) (by omega) (by omega) h2
      have hvx := hv _ (List.getElem_mem ha)
      have hvy := hv _ (List.getElem_mem b1)
      have hcl := cmpN_lt hvy hvx
      have w2 : IntKind.i64.wrap ((h : Int) + 1) = ((h + 1 : Nat) : Int) := wrapI (by omega) (by omega)
      have hcall := merge1_pc (G := R.G) l[h] l[a] hvy hvx
      have exh : isa l[h] = [.int .i64 l[h].d, .int .i64 l[h].l, .int .u8 l[h].k, .vsl (l[h].its.map ita), .vsl (l[h].dms.map dma)] := rfl
      have exa : isa l[a] = [.int .i64 l[a].d, .int .i64 l[a].l, .int .u8 l[a].k, .vsl (l[a].its.map ita), .vsl (l[a].dms.map dma)] := rfl
      rw [exh, exa] at hcall
      simp -implicitDefEqProofs [hij, hw, b1, ha, exh, exa]
      refine CallD.of hcall (by simp [AV.pure]) ?_
      by_cases hlt : cmpN l[h] l[a] < 0
      · simp -implicitDefEqProofs [hlt, w2]
        have e1 : h + 1 - (a + 1) = h - (a + 1) + 1 := by omega
        refine ⟨rfl, (h + 1, j), ?_, ⟨by simp only; omega, by simp only; omega, q3, ?_, q5⟩, by simp only; omega⟩
        · ((try simp only [and_true]); refine Weak.sub (by simp [lk, keptA, AV.keys, and_true]) ?_; simp only [and_true, List.cons_append, List.nil_append, List.mem_cons, List.not_mem_nil, or_false, forall_eq_or_imp, forall_eq, isa_kept, and_true]; (try simp [lk, keptO, keptA, AV.keys, and_true]))
        · simp only
          rw [e1, ex0]
          exact take_lt hs hg (hcl.1 hlt)
      · simp -implicitDefEqProofs [hlt]
        refine ⟨rfl, (i, h), ?_, ⟨q1, by simp only; omega, by simp only; omega, q4, ?_⟩, by simp only; omega⟩
        · ((try simp only [and_true]); refine Weak.sub (by simp [lk, keptA, AV.keys, and_true]) ?_; simp only [and_true, List.cons_append, List.nil_append, List.mem_cons, List.not_mem_nil, or_false, forall_eq_or_imp, forall_eq, isa_kept, and_true]; (try simp [lk, keptO, keptA, AV.keys, and_true]))
        · simp only
          rw [ex0]
          exact drop_ge hs hg fun h => hlt (hcl.2 h)
    · obtain rfl : i = j := by omega
      simp -implicitDefEqProofs []
      refine GO_ret mixed 1000 ?_
      obtain ⟨t, ht⟩ : ∃ t, i = a + 1 + t := ⟨i - (a + 1), by omega⟩
      have e2 : i - (a + 1) = t := by omega
      rw [e2] at q4 q5
      have hend := mrS_end hin (by omega) h2 hs q4 q5
      simp -implicitDefEqProofs []
      refine AR_for (fun p => ⟨[(13, .int .i64 ((a : Int) + p)), (10, .int .i64 i), (0, .osl 1000 l.length)], [(1000, .row 5 ((mrS l a b p).map isa))]⟩) (fun _ => True) t ?_ trivial ?_ ?_
      · have z := mrS_zero (l := l) (a := a) (b := b) (by omega) h2
        rw [z]
        ((try simp only [and_true]); refine Weak.sub (by simp [lk, keptA, AV.keys, and_true]) ?_; simp only [and_true, List.cons_append, List.nil_append, List.mem_cons, List.not_mem_nil, or_false, forall_eq_or_imp, forall_eq, isa_kept, and_true]; (try simp [lk, keptO, keptA, AV.keys, and_true]))
      · intro p hp _
        refine GO_AR mixed 1000 ?_
        obtain ⟨y, y0, y1, y2, y3⟩ := mrS_at (l := l) (a := a) (b := b) (p := p) (by omega) h2 (by omega)
        have hQ := mrS_len (l := l) (a := a) (b := b) (p := p) (by omega) h2 (by omega)
        have wi : IntKind.i64.wrap ((i : Int) - 1) = (a : Int) + t := by rw [wrapI (by omega) (by omega)]; omega
        have k1 : (a : Int) + p < (a : Int) + t := by omega
        have k1' : (p : Int) < t := by omega
        have w3 : IntKind.i64.wrap ((a : Int) + p + 1) = (a : Int) + p + 1 := wrapI (by omega) (by omega)
        have k3 : ((a : Int) + p).toNat = a + p := by omega
        have k4 : ((a : Int) + p + 1).toNat = a + p + 1 := by omega
        have k5 : (0 : Int) ≤ (a : Int) + p := by omega
        have k6 : (0 : Int) ≤ (a : Int) + p + 1 := by omega
        have k7 : a + p < l.length := by omega
        have k8 : a + p + 1 < l.length := by omega
        generalize hQ0 : mrS l a b p = Q at *
        obtain ⟨p1, g1⟩ := List.getElem?_eq_some_iff.1 y1
        obtain ⟨p2, g2⟩ := List.getElem?_eq_some_iff.1 y2
        generalize hx : l.getD a default = x at *
        have exx : isa x = [.int .i64 x.d, .int .i64 x.l, .int .u8 x.k, .vsl (x.its.map ita), .vsl (x.dms.map dma)] := rfl
        have exy : isa y = [.int .i64 y.d, .int .i64 y.l, .int .u8 y.k, .vsl (y.its.map ita), .vsl (y.dms.map dma)] := rfl
        simp -implicitDefEqProofs [wi, k1, k1', w3, k3, k4, k5, k6, k7, k8, g1, g2, hQ, hQ0, exx, exy]
        refine ⟨rfl, ?_⟩
        have e9 : (a : Int) + p + 1 = (a : Int) + (p + 1 : Nat) := by omega
        rw [← exx, ← exy, ← List.map_set, ← List.map_set, y3, e9]
        ((try simp only [and_true]); refine Weak.sub (by simp [lk, keptA, AV.keys, and_true]) ?_; simp only [and_true, List.cons_append, List.nil_append, List.mem_cons, List.not_mem_nil, or_false, forall_eq_or_imp, forall_eq, isa_kept, and_true]; (try simp [lk, keptO, keptA, AV.keys, and_true]))
      · intro _
        refine GO_AR mixed 1000 ?_
        have wi : IntKind.i64.wrap ((i : Int) - 1) = (a : Int) + t := by rw [wrapI (by omega) (by omega)]; omega
        rw [hend]
        simp -implicitDefEqProofs [wi]
        refine GO_ret mixed 1000 ?_
        simp -implicitDefEqProofs []
        refine ⟨[], rfl, rfl, ?_⟩
        simp [frzSt, newK, frz_isa]
end
end Go.Proofs.YtdpmioiamcgfkaaDoor

/-! symMerge where the second range is a single issue. -/
namespace Go.Proofs.YtdpmioiamcgfkaaDoor
open Go.RowKit

theorem take_nlt {B : List Iss} {p : Nat} {v : Int} {z : Iss} (hs : SrtN B) (hz : B[p]? = some z) (h : ¬ v < kyN z) : ∀ y ∈ B.take (p + 1), ¬ v < kyN y := fun y hy => by
  obtain ⟨hp, rfl⟩ := List.getElem?_eq_some_iff.1 hz
  obtain ⟨j, hj, rfl⟩ := List.getElem_of_mem hy
  rw [List.getElem_take]
  have hj2 : j ≤ p := by simp at hj; omega
  rcases Nat.lt_or_ge j p with h1 | h1
  · have := List.pairwise_iff_getElem.1 hs j p (by omega) hp h1
    omega
  · obtain rfl : j = p := by omega
    exact h
theorem drop_gt {B : List Iss} {p : Nat} {v : Int} {z : Iss} (hs : SrtN B) (hz : B[p]? = some z) (h : v < kyN z) : ∀ y ∈ B.drop p, v < kyN y := fun y hy => by
  obtain ⟨hp, rfl⟩ := List.getElem?_eq_some_iff.1 hz
  obtain ⟨j, hj, rfl⟩ := List.getElem_of_mem hy
  rw [List.getElem_drop]
  simp only [List.length_drop] at hj
  rcases Nat.lt_or_ge 0 j with h1 | h1
  · have := List.pairwise_iff_getElem.1 hs p (p + j) hp (by omega) (by omega)
    omega
  · obtain rfl : j = 0 := by omega
    exact h
def BtI (l : List Iss) (a m : Nat) (p : Nat × Nat) : Prop := a ≤ p.1 ∧ p.1 ≤ p.2 ∧ p.2 ≤ m ∧ (∀ y ∈ ((l.take m).drop a).take (p.1 - a), ¬ kyN (l.getD m default) < kyN y) ∧ (∀ y ∈ ((l.take m).drop a).drop (p.2 - a), kyN (l.getD m default) < kyN y)
section
variable {G : Nat → Option (List AV)}

set_option maxHeartbeats 2000000 in
theorem sym2_pb (l : List Iss) (a m : Nat) (hv : ∀ x ∈ l, okN x) (hin : InjN l) (h0 : a + 1 < m) (h2 : m + 1 ≤ l.length) (h3 : l.length ≤ 1000) (hs : SrtN ((l.take m).drop a)) :
    PB Tryd.prog G 131 [(1000, .row 5 (l.map isa))] [.osl 1000 l.length, .int .i64 a, .int .i64 m, .int .i64 (m + 1 : Nat), fM1] (.tup []) [(1000, .row 5 ((srtS l a (m + 1)).map isa))] := by
  (refine pb_slices_symMergeCmpFunc_api_Issue (Nat.le_of_ble_eq_true rfl) fun R hG hrd => GO_AR mixed 1000 ?_; subst hG)
  have hm : m < l.length := by omega
  have ex0 : l.getD m default = l[m] := by simp [List.getD_eq_getElem?_getD, hm]
  have w0 : IntKind.i64.wrap ((m : Int) - a) = (m : Int) - a := wrapI (by omega) (by omega)
  have c0 : ¬ (m : Int) - a = 1 := by omega
  have w1 : IntKind.i64.wrap ((m : Int) + 1 - m) = 1 := by rw [wrapI (by omega) (by omega)]; omega
  have c1 : IntKind.i64.wrap 1 = 1 := rfl
  have c2 : (m : Int) + 1 - m = 1 := by omega
  have hid : sortN ((l.take m).drop a) = (l.take m).drop a := sortN_id (hin.sub fun x hx => List.mem_of_mem_take (List.mem_of_mem_drop hx)) hs
  simp -implicitDefEqProofs [rc_slices_symMergeCmpFunc_api_Issue, rr_slices_symMergeCmpFunc_api_Issue, fM1, w0, c0, w1, c1, c2]
  refine AR_loop (fun p : Nat × Nat => ⟨[(14, .int .i64 p.1), (15, .int .i64 p.2), (0, .osl 1000 l.length), (2, .int .i64 m), (4, .func (.func 92) [] [])], [(1000, .row 5 (l.map isa))]⟩)
    (BtI l a m) (fun p => p.2 - p.1) (a, m) ?_ ⟨Nat.le_refl _, by simp only; omega, Nat.le_refl _, fun y hy => by simp at hy, fun y hy => by rw [List.drop_of_length_le (by simp; omega)] at hy; cases hy⟩ ?_
  · ((try simp only [and_true]); refine Weak.sub (by simp [lk, keptA, AV.keys, and_true]) ?_; simp only [and_true, List.cons_append, List.nil_append, List.mem_cons, List.not_mem_nil, or_false, forall_eq_or_imp, forall_eq, isa_kept, and_true]; (try simp [lk, keptO, keptA, AV.keys, and_true]))
  · rintro ⟨i, j⟩ ⟨q1, q2, q3, q4, q5⟩
    refine GO_AR mixed 1000 ?_
    simp only at q1 q2 q3 q4 q5
    by_cases hij : i < j
    · obtain ⟨h, hh⟩ : ∃ h, h = (i + j) / 2 := ⟨_, rfl⟩
      have hw := half_wrap (i := i) (j := j) (by omega)
      rw [← hh] at hw
      have b1 : h < l.length := by omega
      have hg := rng_at (l := l) (s := a) (b := m) (k := h) (by omega) (by omega) (by omega)
      have hvx := hv _ (List.getElem_mem hm)
      have hvy := hv _ (List.getElem_mem b1)
      have hcl := cmpN_lt hvx hvy
      have w2 : IntKind.i64.wrap ((h : Int) + 1) = ((h + 1 : Nat) : Int) := wrapI (by omega) (by omega)
      have hcall := merge1_pc (G := R.G) l[m] l[h] hvx hvy
      have exh : isa l[h] = [.int .i64 l[h].d, .int .i64 l[h].l, .int .u8 l[h].k, .vsl (l[h].its.map ita), .vsl (l[h].dms.map dma)] := rfl
      have exa : isa l[m] = [.int .i64 l[m].d, .int .i64 l[m].l, .int .u8 l[m].k, .vsl (l[m].its.map ita), .vsl (l[m].dms.map dma)] := rfl
      rw [exh, exa] at hcall
      simp -implicitDefEqProofs [hij, hw, b1, hm, exh, exa]
      refine CallD.of hcall (by simp [AV.pure]) ?_
      by_cases hlt : cmpN l[m] l[h] < 0
      · simp -implicitDefEqProofs [hlt]
        refine ⟨rfl, (i, h), ?_, ⟨q1, by simp only; omega, by simp only; omega, q4, ?_⟩, by simp only; omega⟩
        · ((try simp only [and_true]); refine Weak.sub (by simp [lk, keptA, AV.keys, and_true]) ?_; simp only [and_true, List.cons_append, List.nil_append, List.mem_cons, List.not_mem_nil, or_false, forall_eq_or_imp, forall_eq, isa_kept, and_true]; (try simp [lk, keptO, keptA, AV.keys, and_true]))
        · simp only
          rw [ex0]
          exact drop_gt hs hg (hcl.1 hlt)
      · simp -implicitDefEqProofs [hlt, w2]
        have e1 : h + 1 - a = h - a + 1 := by omega
        refine ⟨rfl, (h + 1, j), ?_, ⟨by simp only; omega, by simp only; omega, q3, ?_, q5⟩, by simp only; omega⟩
        · ((try simp only [and_true]); refine Weak.sub (by simp [lk, keptA, AV.keys, and_true]) ?_; simp only [and_true, List.cons_append, List.nil_append, List.mem_cons, List.not_mem_nil, or_false, forall_eq_or_imp, forall_eq, isa_kept, and_true]; (try simp [lk, keptO, keptA, AV.keys, and_true]))
        · simp only
          rw [e1, ex0]
          exact take_nlt hs hg fun h => hlt (hcl.2 h)
    · obtain rfl : i = j := by omega
      simp -implicitDefEqProofs []
      refine GO_ret mixed 1000 ?_
      obtain ⟨t, ht⟩ : ∃ t, i = a + t := ⟨i - a, by omega⟩
      have e2 : i - a = t := by omega
      rw [e2] at q4 q5
      rw [ex0] at q4 q5
      have hend := mvS_end (l := l) (a := a) (i := m) (p := t) hin (by omega) hm (by omega) (by rw [hid]; exact q5) (fun q hq y hy => by
        rw [hid] at hy
        refine q4 y ?_
        subst hq
        obtain ⟨hp, rfl⟩ := List.getElem?_eq_some_iff.1 hy
        exact List.mem_of_getElem? (i := q) (by rw [List.getElem?_take_of_lt (by omega)]; exact List.getElem?_eq_getElem hp))
      have z := mvS_zero (l := l) (a := a) (i := m) (by omega) hm
      have z1 : srtS l a m = l := by
        have e5 : l.take a = (l.take m).take a := by rw [List.take_take, Nat.min_eq_left (by omega)]
        rw [srtS, hid, ← List.append_assoc, e5, List.take_append_drop, List.take_append_drop]
      rw [z1] at z
      simp -implicitDefEqProofs []
      refine AR_loop (fun p : Nat => ⟨[(17, .int .i64 ((a : Int) + p)), (14, .int .i64 i), (0, .osl 1000 l.length)], [(1000, .row 5 ((mvS l a m p).map isa))]⟩) (fun p => t ≤ p ∧ p ≤ m - a) (fun p => p) (m - a) ?_ ⟨by omega, Nat.le_refl _⟩ ?_
      · rw [← z]
        have e9 : (m : Int) = (a : Int) + (m - a : Nat) := by omega
        rw [e9]
        ((try simp only [and_true]); refine Weak.sub (by simp [lk, keptA, AV.keys, and_true]) ?_; simp only [and_true, List.cons_append, List.nil_append, List.mem_cons, List.not_mem_nil, or_false, forall_eq_or_imp, forall_eq, isa_kept, and_true]; (try simp [lk, keptO, keptA, AV.keys, and_true]))
      · rintro p ⟨hp1, hp2⟩
        refine GO_AR mixed 1000 ?_
        by_cases hpt : p = t
        · have k0 : ¬ (a : Int) + t < (a : Int) + p := by omega
          have k0' : ¬ (t : Int) < p := by omega
          have k0'' : ¬ t < p := by omega
          subst hpt
          rw [hend]
          simp -implicitDefEqProofs [ht]
          refine GO_ret mixed 1000 ?_
          simp -implicitDefEqProofs []
          refine ⟨[], rfl, rfl, ?_⟩
          simp [frzSt, newK, frz_isa]
        · obtain ⟨u, rfl⟩ : ∃ u, p = u + 1 := ⟨p - 1, by omega⟩
          obtain ⟨y, y0, y1, y2, y3, -⟩ := mvS_at (l := l) (a := a) (i := m) (p := u) (by omega) hm (by omega)
          have hQ := mvS_len (l := l) (a := a) (i := m) (p := u + 1) (by omega) hm (by omega)
          have k1 : (a : Int) + t < (a : Int) + (u + 1) := by omega
          have k1' : (t : Int) < (u : Int) + 1 := by omega
          have w3 : IntKind.i64.wrap ((a : Int) + (u + 1) - 1) = (a : Int) + u := by rw [wrapI (by omega) (by omega)]; omega
          have k3 : ((a : Int) + (u + 1)).toNat = a + u + 1 := by omega
          have k4 : ((a : Int) + u).toNat = a + u := by omega
          have k5 : (0 : Int) ≤ (a : Int) + (u + 1) := by omega
          have k6 : (0 : Int) ≤ (a : Int) + u := by omega
          have k7 : a + u < l.length := by omega
          have k8 : a + u + 1 < l.length := by omega
          generalize hQ0 : mvS l a m (u + 1) = Q at *
          obtain ⟨p1, g1⟩ := List.getElem?_eq_some_iff.1 y1
          obtain ⟨p2, g2⟩ := List.getElem?_eq_some_iff.1 y2
          generalize hxx : l[m] = x at *
          have exx : isa x = [.int .i64 x.d, .int .i64 x.l, .int .u8 x.k, .vsl (x.its.map ita), .vsl (x.dms.map dma)] := rfl
          have exy : isa y = [.int .i64 y.d, .int .i64 y.l, .int .u8 y.k, .vsl (y.its.map ita), .vsl (y.dms.map dma)] := rfl
          simp -implicitDefEqProofs [ht, k1, k1', w3, k3, k4, k5, k6, k7, k8, g1, g2, hQ, hQ0, exx, exy]
          refine ⟨rfl, u, ?_, ⟨by omega, by omega⟩, Nat.lt_succ_self _⟩
          rw [← exx, ← exy, ← List.map_set, ← List.map_set, y3]
          ((try simp only [ht]); refine Weak.sub (by simp [lk, keptA, AV.keys, ht]) ?_; simp only [ht, List.cons_append, List.nil_append, List.mem_cons, List.not_mem_nil, or_false, forall_eq_or_imp, forall_eq, isa_kept, and_true]; (try simp [lk, keptO, keptA, AV.keys, ht]))
end
end Go.Proofs.YtdpmioiamcgfkaaDoor

/-! symMerge: what a step of it does, plain. -/
namespace Go.Proofs.YtdpmioiamcgfkaaDoor
open Go.RowKit

theorem srtS_id {q : List Iss} {a c : Nat} (hi : InjN q) (h : a ≤ c) (hs : SrtN ((q.take c).drop a)) : srtS q a c = q := by
  have hid : sortN ((q.take c).drop a) = (q.take c).drop a := sortN_id (hi.sub fun x hx => List.mem_of_mem_take (List.mem_of_mem_drop hx)) hs
  have e5 : q.take a = (q.take c).take a := by rw [List.take_take, Nat.min_eq_left h]
  rw [srtS, hid, ← List.append_assoc, e5, List.take_append_drop, List.take_append_drop]
theorem roS_l {l : List Iss} {m e : Nat} (h : m ≤ e) : roS l m m e = l := by
  have e1 : (l.take m).drop m = [] := List.drop_of_length_le (by simp; omega)
  have e5 : l.take m = (l.take e).take m := by rw [List.take_take, Nat.min_eq_left h]
  rw [roS, e1, List.nil_append, ← List.append_assoc, e5, List.take_append_drop, List.take_append_drop]
theorem roS_r {l : List Iss} {s m : Nat} (h : s ≤ m) : roS l s m m = l := by
  have e1 : (l.take m).drop m = [] := List.drop_of_length_le (by simp; omega)
  have e5 : l.take s = (l.take m).take s := by rw [List.take_take, Nat.min_eq_left h]
  rw [roS, e1, List.nil_append, ← List.append_assoc, e5, List.take_append_drop, List.take_append_drop]
/-- What the search for the bound keeps. -/
def CtI (l : List Iss) (n s0 r0 : Nat) (p : Nat × Nat) : Prop := s0 ≤ p.1 ∧ p.1 ≤ p.2 ∧ p.2 ≤ r0 ∧ (s0 < p.1 → ¬ kyN (l.getD (n - p.1) default) < kyN (l.getD (p.1 - 1) default)) ∧ (p.2 < r0 → kyN (l.getD (n - 1 - p.2) default) < kyN (l.getD p.2 default))
theorem getLast_rng {l : List Iss} {a c : Nat} (h1 : a < c) (h2 : c ≤ l.length) : l.getD (c - 1) default ∈ ((l.take c).drop a).getLast? := by
  have hl : ((l.take c).drop a).length = c - a := by simp; omega
  rw [List.getLast?_eq_getElem?, hl]
  have := rng_at (l := l) (s := a) (b := c) (k := c - 1) (by omega) (by omega) h2
  rw [show c - 1 - a = c - a - 1 by omega] at this
  rw [this]
  simp [List.getD_eq_getElem?_getD, show c - 1 < l.length by omega]
theorem head_rng {l : List Iss} {a c : Nat} (h1 : a < c) (h2 : c ≤ l.length) : l.getD a default ∈ ((l.take c).drop a).head? := by
  have := rng_at (l := l) (s := a) (b := c) (k := a) (Nat.le_refl _) h1 h2
  rw [Nat.sub_self] at this
  rw [List.head?_eq_getElem?, this]
  simp [List.getD_eq_getElem?_getD, show a < l.length by omega]
theorem sym_step {l : List Iss} {a m b c s : Nat} (hi : InjN l) (h1 : a ≤ c) (h2 : c ≤ b) (hb : b ≤ l.length) (ham : a ≤ m) (hmb : m ≤ b) (hsA : SrtN ((l.take m).drop a)) (hsB : SrtN ((l.take b).drop m))
    (s1 : a ≤ s) (s2 : s ≤ m) (s3 : s ≤ c) (s4 : c + m - s ≤ b) {s0 r0 : Nat} (hI : CtI l (c + m) s0 r0 (s, s)) (h0 : s0 = a ∨ c + m - s0 = b) (h3 : r0 = m ∨ r0 = c) :
    srtS (srtS (roS l s m (c + m - s)) a c) c b = srtS l a b := by
  obtain ⟨q1, -, q3, q4, q5⟩ := hI
  simp only at q1 q3 q4 q5
  have e := five l (a := a) (b := s) (c := m) (d := c + m - s) s1 s2 (by omega) (by omega)
  have eD : l.drop (c + m - s) = (l.take b).drop (c + m - s) ++ l.drop b := by
    have h := List.take_append_drop b l
    conv => lhs; rw [← h]
    rw [List.drop_append_of_le_length (by simp; omega)]
  rw [eD] at e
  have A1 : ((l.take s).drop a).length = s - a := by simp; omega
  have A2 : ((l.take m).drop s).length = m - s := by simp; omega
  have B1 : ((l.take (c + m - s)).drop m).length = c - s := by simp; omega
  have B2 : ((l.take b).drop (c + m - s)).length = b - (c + m - s) := by simp; omega
  have lP : (l.take a).length = a := by simp; omega
  have jA : (l.take m).drop a = (l.take s).drop a ++ (l.take m).drop s := by
    have h := List.take_append_drop s (l.take m)
    rw [List.take_take, Nat.min_eq_left s2] at h
    conv => lhs; rw [← h]
    rw [List.drop_append_of_le_length (by simp; omega)]
  have jB : (l.take b).drop m = (l.take (c + m - s)).drop m ++ (l.take b).drop (c + m - s) := by
    have h := List.take_append_drop (c + m - s) (l.take b)
    rw [List.take_take, Nat.min_eq_left s4] at h
    conv => lhs; rw [← h]
    rw [List.drop_append_of_le_length (by simp; omega)]
  rw [jA] at hsA
  rw [jB] at hsB
  have hcr := cross_ok hsA hsB
    (by
      by_cases z : s0 < s
      · by_cases z2 : a < s
        · by_cases z3 : c + m - s < b
          · exact .inr (.inr ⟨_, _, getLast_rng z2 (by omega), head_rng z3 hb, Int.not_lt.1 (q4 z)⟩)
          · exact .inr (.inl (List.length_eq_zero_iff.1 (by omega)))
        · exact .inl (List.length_eq_zero_iff.1 (by omega))
      · have hs0 : s0 = s := by omega
        rcases h0 with h | h
        · exact .inl (List.length_eq_zero_iff.1 (by omega))
        · exact .inr (.inl (List.length_eq_zero_iff.1 (by omega))))
    (by
      by_cases z : s < r0
      · by_cases z2 : s < c
        · by_cases z3 : s < m
          · have g := getLast_rng (l := l) (a := m) (c := c + m - s) (by omega) (by omega)
            rw [show c + m - s - 1 = c + m - 1 - s by omega] at g
            exact .inr (.inr ⟨_, _, g, head_rng z3 (by omega), Int.le_of_lt (q5 z)⟩)
          · exact .inr (.inl (List.length_eq_zero_iff.1 (by omega)))
        · exact .inl (List.length_eq_zero_iff.1 (by omega))
      · have hs0 : r0 = s := by omega
        rcases h3 with h | h
        · exact .inr (.inl (List.length_eq_zero_iff.1 (by omega)))
        · exact .inl (List.length_eq_zero_iff.1 (by omega)))
  have hall := sym_all (l.take a) ((l.take s).drop a) ((l.take m).drop s) ((l.take (c + m - s)).drop m) ((l.take b).drop (c + m - s)) (l.drop b) (a := a) (b := b) (c := c) (m := s) (e := c + m - s) lP (by omega) (by omega) (by omega) (by omega) (hi.sub fun x hx => by
    simp only [List.mem_append] at hx
    rcases hx with hx | hx | hx | hx <;> exact List.mem_of_mem_take (List.mem_of_mem_drop hx)) hcr
  rw [← e, A2, show s + (m - s) = m by omega] at hall
  exact hall
end Go.Proofs.YtdpmioiamcgfkaaDoor

/-! What sorting ranges keeps. -/
namespace Go.Proofs.YtdpmioiamcgfkaaDoor
open Go.RowKit

theorem srtS_perm {l : List Iss} {a b : Nat} (h : a ≤ b) : (srtS l a b).Perm l := by
  have e5 : l.take a = (l.take b).take a := by rw [List.take_take, Nat.min_eq_left h]
  have h1 : (srtS l a b).Perm (l.take a ++ ((l.take b).drop a ++ l.drop b)) := List.Perm.append_left _ ((sortN_perm _).append_right _)
  have h2 : l.take a ++ ((l.take b).drop a ++ l.drop b) = l := by rw [← List.append_assoc, e5, List.take_append_drop, List.take_append_drop]
  rwa [h2] at h1
theorem roS_perm {l : List Iss} {a m b : Nat} (h1 : a ≤ m) (h2 : m ≤ b) (h3 : b ≤ l.length) : (roS l a m b).Perm l := by
  have e := five l (a := a) (b := m) (c := b) (d := b) h1 h2 (Nat.le_refl _) h3
  have e1 : (l.take b).drop b = [] := List.drop_of_length_le (by simp; omega)
  rw [e1, List.nil_append] at e
  have hp : (roS l a m b).Perm (l.take a ++ ((l.take m).drop a ++ ((l.take b).drop m ++ l.drop b))) := by
    refine List.Perm.append_left _ ?_
    rw [← List.append_assoc, ← List.append_assoc]
    exact List.perm_append_comm.append_right _
  rwa [← e] at hp
theorem okN_perm {l q : List Iss} (p : q.Perm l) (h : ∀ x ∈ l, okN x) : ∀ x ∈ q, okN x := fun x hx => h x (p.mem_iff.1 hx)
/-- The halves after the rotation. -/
theorem ro_left {l : List Iss} {a s m e c : Nat} (h1 : a ≤ s) (h2 : s ≤ m) (h3 : m ≤ e) (h4 : e ≤ l.length) (hc : c = s + (e - m)) : ((roS l s m e).take s).drop a = (l.take s).drop a ∧ ((roS l s m e).take c).drop s = (l.take e).drop m := by
  have lP : (l.take s).length = s := by simp; omega
  have lB : ((l.take e).drop m).length = e - m := by simp; omega
  have t1 : (roS l s m e).take s = l.take s := List.take_left' lP
  have t2 : (roS l s m e).take c = l.take s ++ (l.take e).drop m := by
    rw [roS, ← List.append_assoc]; exact List.take_left' (by rw [List.length_append, lP, lB, hc])
  exact ⟨by rw [t1], by rw [t2, List.drop_left' lP]⟩
theorem srt_right {q : List Iss} {a c e b : Nat} (h1 : a ≤ c) (h2 : c ≤ e) (hl : c ≤ q.length) : ((srtS q a c).take e).drop c = (q.take e).drop c ∧ ((srtS q a c).take b).drop e = (q.take b).drop e := by
  have lX : (q.take a ++ sortN ((q.take c).drop a)).length = c := by
    rw [List.length_append, sortN_len]; simp; omega
  have e1 : srtS q a c = (q.take a ++ sortN ((q.take c).drop a)) ++ q.drop c := by rw [srtS, List.append_assoc]
  generalize q.take a ++ sortN ((q.take c).drop a) = X at *
  have key : ∀ k, (srtS q a c).drop (c + k) = q.drop (c + k) := fun k => by
    rw [e1, ← List.drop_drop, List.drop_left' lX, List.drop_drop]
  have kt : ∀ x y : Nat, c ≤ y → ((srtS q a c).take x).drop y = (q.take x).drop y := fun x y hy => by
    obtain ⟨k, rfl⟩ : ∃ k, y = c + k := ⟨y - c, by omega⟩
    rw [List.drop_take, List.drop_take, key]
  exact ⟨kt _ _ (Nat.le_refl _), kt _ _ h2⟩
end Go.Proofs.YtdpmioiamcgfkaaDoor

/-! symMerge, by the abstract machine. -/
namespace Go.Proofs.YtdpmioiamcgfkaaDoor
open Go.RowKit
theorem srt_sub1 {l : List Iss} {a s m : Nat} (h : SrtN ((l.take m).drop a)) (h2 : s ≤ m) : SrtN ((l.take s).drop a) := by
  have e : (l.take s).drop a = ((l.take m).drop a).take (s - a) := by
    rw [← List.drop_take, List.take_take, Nat.min_eq_left h2]
  rw [e]
  exact List.Pairwise.sublist (List.take_sublist _ _) h
theorem srt_sub2 {l : List Iss} {a s m : Nat} (h : SrtN ((l.take m).drop a)) (h2 : a ≤ s) : SrtN ((l.take m).drop s) := by
  have e : (l.take m).drop s = ((l.take m).drop a).drop (s - a) := by rw [List.drop_drop]; congr 1; omega
  rw [e]
  exact List.Pairwise.sublist (List.drop_sublist _ _) h
theorem ro_right {l : List Iss} {s m e c b : Nat} (h2 : s ≤ m) (h3 : m ≤ e) (h4 : e ≤ l.length) (hc : c = s + (e - m)) : ((roS l s m e).take e).drop c = (l.take m).drop s ∧ ((roS l s m e).take b).drop e = (l.take b).drop e := by
  have lX : (l.take s ++ (l.take e).drop m).length = c := by rw [List.length_append]; simp; omega
  have lA : ((l.take m).drop s).length = m - s := by simp; omega
  have e1 : roS l s m e = (l.take s ++ (l.take e).drop m) ++ ((l.take m).drop s ++ l.drop e) := by rw [roS, List.append_assoc]
  have e2 : roS l s m e = ((l.take s ++ (l.take e).drop m) ++ (l.take m).drop s) ++ l.drop e := by rw [e1]; simp only [List.append_assoc]
  have lY : ((l.take s ++ (l.take e).drop m) ++ (l.take m).drop s).length = e := by rw [List.length_append, lX, lA]; omega
  constructor
  · rw [e2, List.take_left' lY, List.drop_left' lX]
  · rw [List.drop_take, List.drop_take, e2, List.drop_left' lY]
theorem AR_cut {P : Program} {R : Run} {a b : RCode} {st S : St} {Φ : Exit → St → Prop} (h : AR P R a st fun e s => e = .normal ∧ Weak s S) (hb : AR P R b S Φ) : AR P R (.seq a b) st Φ :=
  AR_seq (AR_mono h fun e s hs => by obtain ⟨rfl, hw⟩ := hs; exact AR_weak hw hb)
section
variable {G : Nat → Option (List AV)}

set_option maxHeartbeats 4000000 in
set_option maxRecDepth 100000 in
theorem sym_pb : ∀ (N : Nat) (l : List Iss) (a m b : Nat), b - a ≤ N → (∀ x ∈ l, okN x) → InjN l → a < m → m < b → b ≤ l.length → l.length ≤ 1000 → SrtN ((l.take m).drop a) → SrtN ((l.take b).drop m) →
    PB Tryd.prog G 131 [(1000, .row 5 (l.map isa))] [.osl 1000 l.length, .int .i64 a, .int .i64 m, .int .i64 b, fM1] (.tup []) [(1000, .row 5 ((srtS l a b).map isa))]
  | 0, _, _, _, _, hN, _, _, h1, h2, _, _, _, _ => by omega
  | N + 1, l, a, m, b, hN, hv, hin, h1, h2, h3, h4, hsA, hsB => by
    by_cases e1 : m = a + 1
    · subst e1; exact sym1_pb l a b hv hin (by omega) h3 h4 hsB
    by_cases e2 : b = m + 1
    · subst e2; exact sym2_pb l a m hv hin (by omega) h3 h4 hsA
    have ih := fun l a m b => sym_pb N l a m b
    (refine pb_slices_symMergeCmpFunc_api_Issue (Nat.le_of_ble_eq_true rfl) fun R hG hrd => GO_AR mixed 1000 ?_; subst hG)
    have w0 : IntKind.i64.wrap ((m : Int) - a) = (m : Int) - a := wrapI (by omega) (by omega)
    have c0 : ¬ (m : Int) - a = 1 := by omega
    have w1 : IntKind.i64.wrap ((b : Int) - m) = (b : Int) - m := wrapI (by omega) (by omega)
    have c1 : ¬ (b : Int) - m = 1 := by omega
    obtain ⟨c, hc⟩ : ∃ c, c = (a + b) / 2 := ⟨_, rfl⟩
    have hw := half_wrap (i := a) (j := b) (by omega)
    rw [← hc] at hw
    have w2 : IntKind.i64.wrap ((c : Int) + m) = ((c + m : Nat) : Int) := wrapI (by omega) (by omega)
    simp -implicitDefEqProofs [rc_slices_symMergeCmpFunc_api_Issue, rr_slices_symMergeCmpFunc_api_Issue, fM1, w0, c0, w1, c1, hw, w2]
    have hbr : ∃ s0 r0 : Nat, a ≤ s0 ∧ s0 ≤ r0 ∧ r0 ≤ m ∧ r0 ≤ c ∧ c + m - s0 ≤ b ∧ (s0 = a ∨ c + m - s0 = b) ∧ (r0 = m ∨ r0 = c) ∧ (c < m → s0 = c + m - b ∧ r0 = c) ∧ (¬ c < m → s0 = a ∧ r0 = m) := by
      by_cases h : c < m
      · exact ⟨c + m - b, c, by omega, by omega, by omega, by omega, by omega, .inr (by omega), .inr rfl, fun _ => ⟨rfl, rfl⟩, fun h' => absurd h h'⟩
      · exact ⟨a, m, by omega, by omega, by omega, by omega, by omega, .inl rfl, .inl rfl, fun h' => absurd h' h, fun _ => ⟨rfl, rfl⟩⟩
    obtain ⟨s0, r0, g1, g2, g3, g4, g5, g6, g7, g8, g9⟩ := hbr
    have w3 : IntKind.i64.wrap (((c + m : Nat) : Int) - 1) = ((c + m - 1 : Nat) : Int) := by rw [wrapI (by omega) (by omega)]; omega
    have hk12 : (c < m ∧ s0 = c + m - b ∧ r0 = c) ∨ (¬ c < m ∧ s0 = a ∧ r0 = m) := by
      by_cases h : c < m
      · exact .inl ⟨h, g8 h⟩
      · exact .inr ⟨h, g9 h⟩
    clear g8 g9
    rcases hk12 with ⟨hcm, k1, k2⟩ | ⟨hcm, k1, k2⟩
    case' inl =>
      have w4 : IntKind.i64.wrap (((c + m : Nat) : Int) - b) = ((c + m - b : Nat) : Int) := by rw [wrapI (by omega) (by omega)]; omega
      rw [Int.natCast_add] at w3 w4
      rw [← k1] at w4
      simp -implicitDefEqProofs [hcm, w3, w4]
    case' inr =>
      rw [Int.natCast_add] at w3
      simp -implicitDefEqProofs [hcm, w3]
    all_goals
      refine AR_loop (fun p : Nat × Nat => ⟨[(20, .int .i64 p.1), (21, .int .i64 p.2), (22, .int .i64 (c + m - 1 : Nat)), (19, .int .i64 ((c : Int) + m)), (18, .int .i64 c), (0, .osl 1000 l.length), (1, .int .i64 a), (2, .int .i64 m), (3, .int .i64 b), (4, .func (.func 92) [] [])], [(1000, .row 5 (l.map isa))]⟩)
        (CtI l (c + m) s0 r0) (fun p => p.2 - p.1) (s0, r0) ?_ ⟨Nat.le_refl _, g2, Nat.le_refl _, fun h => absurd h (Nat.lt_irrefl _), fun h => absurd h (Nat.lt_irrefl _)⟩ ?_
      · simp only [k1, k2]
        ((try simp only [and_true]); refine Weak.sub (by simp [lk, keptA, AV.keys, and_true]) ?_; simp only [and_true, List.cons_append, List.nil_append, List.mem_cons, List.not_mem_nil, or_false, forall_eq_or_imp, forall_eq, isa_kept, and_true]; (try simp [lk, keptO, keptA, AV.keys, and_true]))
      · rintro ⟨i, j⟩ hI
        have hI0 := hI
        obtain ⟨q1, q2, q3, q4, q5⟩ := hI
        refine GO_AR mixed 1000 ?_
        simp only at q1 q2 q3 q4 q5
        by_cases hij : i < j
        · obtain ⟨h, hh⟩ : ∃ h, h = (i + j) / 2 := ⟨_, rfl⟩
          have hwh := half_wrap (i := i) (j := j) (by omega)
          rw [← hh] at hwh
          have b1 : h < l.length := by omega
          have b2 : c + m - 1 - h < l.length := by omega
          have hvx := hv _ (List.getElem_mem b2)
          have hvy := hv _ (List.getElem_mem b1)
          have hcl := cmpN_lt hvx hvy
          have wh : IntKind.i64.wrap ((h : Int) + 1) = ((h + 1 : Nat) : Int) := wrapI (by omega) (by omega)
          have wp : IntKind.i64.wrap (((c + m - 1 : Nat) : Int) - h) = ((c + m - 1 - h : Nat) : Int) := by rw [wrapI (by omega) (by omega)]; omega
          have hcall := merge1_pc (G := R.G) l[c + m - 1 - h] l[h] hvx hvy
          have exh : isa l[h] = [.int .i64 l[h].d, .int .i64 l[h].l, .int .u8 l[h].k, .vsl (l[h].its.map ita), .vsl (l[h].dms.map dma)] := rfl
          have exp : isa l[c + m - 1 - h] = [.int .i64 l[c + m - 1 - h].d, .int .i64 l[c + m - 1 - h].l, .int .u8 l[c + m - 1 - h].k, .vsl (l[c + m - 1 - h].its.map ita), .vsl (l[c + m - 1 - h].dms.map dma)] := rfl
          rw [exh, exp] at hcall
          have dh : l.getD h default = l[h] := by simp [List.getD_eq_getElem?_getD, b1]
          have dp : l.getD (c + m - 1 - h) default = l[c + m - 1 - h] := by simp [List.getD_eq_getElem?_getD, b2]
          generalize hP : c + m - 1 = P at *
          simp -implicitDefEqProofs [hij, hwh, wp, b1, b2, exh, exp]
          refine CallD.of hcall (by simp [AV.pure]) ?_
          by_cases hlt : cmpN l[P - h] l[h] < 0
          · simp -implicitDefEqProofs [hlt]
            refine ⟨rfl, (i, h), ?_, ⟨q1, by simp only; omega, by simp only; omega, q4, fun _ => ?_⟩, by simp only; omega⟩
            · ((try simp only [and_true]); refine Weak.sub (by simp [lk, keptA, AV.keys, and_true]) ?_; simp only [and_true, List.cons_append, List.nil_append, List.mem_cons, List.not_mem_nil, or_false, forall_eq_or_imp, forall_eq, isa_kept, and_true]; (try simp [lk, keptO, keptA, AV.keys, and_true]))
            · simp only
              rw [hP, dh, dp]
              exact hcl.1 hlt
          · simp -implicitDefEqProofs [hlt, wh]
            refine ⟨rfl, (h + 1, j), ?_, ⟨by simp only; omega, by simp only; omega, q3, fun _ => ?_, by simp only; rw [hP]; exact q5⟩, by simp only; omega⟩
            · ((try simp only [and_true]); refine Weak.sub (by simp [lk, keptA, AV.keys, and_true]) ?_; simp only [and_true, List.cons_append, List.nil_append, List.mem_cons, List.not_mem_nil, or_false, forall_eq_or_imp, forall_eq, isa_kept, and_true]; (try simp [lk, keptO, keptA, AV.keys, and_true]))
            · simp only
              rw [show c + m - (h + 1) = P - h by omega, show h + 1 - 1 = h by omega, dh, dp]
              exact fun h => hlt (hcl.2 h)
        · obtain rfl : i = j := by omega
          obtain ⟨e, he⟩ : ∃ e, e = c + m - i := ⟨_, rfl⟩
          have we : IntKind.i64.wrap (((c : Int) + m) - i) = (e : Int) := by rw [wrapI (by omega) (by omega)]; omega
          have x1 : a ≤ i := by omega
          have x2 : i ≤ m := by omega
          have x3 : i ≤ c := by omega
          have x4 : m ≤ e := by omega
          have x5 : e ≤ b := by omega
          have x6 : c = i + (e - m) := by omega
          have hstep := sym_step (l := l) (a := a) (m := m) (b := b) (c := c) (s := i) hin (by omega) (by omega) h3 (by omega) (by omega) hsA hsB x1 x2 x3 (by omega) hI0 g6 g7
          rw [← he] at hstep
          have pr := roS_perm (l := l) (a := i) (m := m) (b := e) x2 x4 (by omega)
          obtain ⟨rl1, rl2⟩ := ro_left (l := l) (a := a) (s := i) (m := m) (e := e) (c := c) x1 x2 x4 (by omega) x6
          obtain ⟨rr1, rr2⟩ := ro_right (l := l) (s := i) (m := m) (e := e) (c := c) (b := b) x2 x4 (by omega) x6
          have roL := roS_l (l := l) (m := m) (e := e) x4
          have roR := roS_r (l := l) (s := i) (m := m) x2
          have hrot := fun (y1 : i < m) (y2 : m < e) => rotate_pb (G := R.G) l i m e y1 y2 (by omega) h4
          generalize hq1 : roS l i m e = q1 at *
          have q1v := okN_perm pr hv
          have q1i : InjN q1 := hin.perm pr.symm
          have q1l : q1.length = l.length := pr.length_eq
          have ps := srtS_perm (l := q1) (a := a) (b := c) (by omega)
          have sr := srt_right (q := q1) (a := a) (c := c) (e := e) (b := b) (by omega) (by omega) (by omega)
          have sid := fun hs => srtS_id (q := q1) (a := a) (c := c) q1i (by omega) hs
          have hrec1 := fun (y1 : a < i) (y2 : i < c) z1 z2 => ih q1 a i c (by omega) q1v q1i y1 y2 (by omega) (by omega) z1 z2
          generalize hq2 : srtS q1 a c = q2 at *
          have q2v := okN_perm ps q1v
          have q2i : InjN q2 := q1i.perm ps.symm
          have q2l : q2.length = l.length := by rw [ps.length_eq, q1l]
          have sid2 := fun hs => srtS_id (q := q2) (a := c) (c := b) q2i (by omega) hs
          have hrec2 := fun (y1 : c < e) (y2 : e < b) z1 z2 => ih q2 c e b (by omega) q2v q2i y1 y2 (by omega) (by omega) z1 z2
          rw [q1l] at hrec1
          rw [q2l] at hrec2
          have wl1 : SrtN ((q1.take i).drop a) := by rw [rl1]; exact srt_sub1 hsA x2
          have wl2 : SrtN ((q1.take c).drop i) := by rw [rl2]; exact srt_sub1 hsB x5
          have wr1 : SrtN ((q2.take e).drop c) := by rw [sr.1, rr1]; exact srt_sub2 hsA x1
          have wr2 : SrtN ((q2.take b).drop e) := by rw [sr.2, rr2]; exact srt_sub2 hsB x4
          simp -implicitDefEqProofs []
          refine GO_ret mixed 2 ?_
          simp -implicitDefEqProofs []
          refine GO0 (AR_cut (S := ⟨[(24, .int .i64 e), (20, .int .i64 i), (18, .int .i64 c), (0, .osl 1000 l.length), (1, .int .i64 a), (2, .int .i64 m), (3, .int .i64 b), (4, .func (.func 92) [] [])], [(1000, .row 5 (l.map isa))]⟩) ?_
            (AR_cut (S := ⟨[(24, .int .i64 e), (20, .int .i64 i), (18, .int .i64 c), (0, .osl 1000 l.length), (1, .int .i64 a), (2, .int .i64 m), (3, .int .i64 b), (4, .func (.func 92) [] [])], [(1000, .row 5 (q1.map isa))]⟩) ?_
            (AR_cut (S := ⟨[(24, .int .i64 e), (20, .int .i64 i), (18, .int .i64 c), (0, .osl 1000 l.length), (1, .int .i64 a), (2, .int .i64 m), (3, .int .i64 b), (4, .func (.func 92) [] [])], [(1000, .row 5 (q2.map isa))]⟩) ?_ ?_)))
          · refine GO_AR mixed 1000 ?_
            simp -implicitDefEqProofs [we]
            ((try simp only [and_true]); refine Weak.sub (by simp [lk, keptA, AV.keys, and_true]) ?_; simp only [and_true, List.cons_append, List.nil_append, List.mem_cons, List.not_mem_nil, or_false, forall_eq_or_imp, forall_eq, isa_kept, and_true]; (try simp [lk, keptO, keptA, AV.keys, and_true]))
          · refine GO_AR mixed 1000 ?_
            by_cases y1 : i < m
            · by_cases y2 : m < e
              · simp -implicitDefEqProofs [y1, y2]
                refine CallK.sem (CallSem.byref (hrot y1 y2) id (by simp) (by simp) (by simp [St.get, lk, isa_ren]) (by simp [isa_kept]) (by simp [keptA, AV.keys, lk, fM1]) rfl (by simp [AV.ren, fM1]) rfl rfl) ?_
                simp -implicitDefEqProofs [setsB, isa_ren]
                ((try simp only [and_true]); refine Weak.sub (by simp [lk, keptA, AV.keys, and_true]) ?_; simp only [and_true, List.cons_append, List.nil_append, List.mem_cons, List.not_mem_nil, or_false, forall_eq_or_imp, forall_eq, isa_kept, and_true]; (try simp [lk, keptO, keptA, AV.keys, and_true]))
              · obtain rfl : e = m := by omega
                rw [roR] at hq1
                simp -implicitDefEqProofs [y1]
                rw [← hq1]
                ((try simp only [and_true]); refine Weak.sub (by simp [lk, keptA, AV.keys, and_true]) ?_; simp only [and_true, List.cons_append, List.nil_append, List.mem_cons, List.not_mem_nil, or_false, forall_eq_or_imp, forall_eq, isa_kept, and_true]; (try simp [lk, keptO, keptA, AV.keys, and_true]))
            · obtain rfl : i = m := by omega
              rw [roL] at hq1
              simp -implicitDefEqProofs []
              rw [← hq1]
              ((try simp only [and_true]); refine Weak.sub (by simp [lk, keptA, AV.keys, and_true]) ?_; simp only [and_true, List.cons_append, List.nil_append, List.mem_cons, List.not_mem_nil, or_false, forall_eq_or_imp, forall_eq, isa_kept, and_true]; (try simp [lk, keptO, keptA, AV.keys, and_true]))
          · refine GO_AR mixed 1000 ?_
            by_cases y1 : a < i
            · by_cases y2 : i < c
              · simp -implicitDefEqProofs [y1, y2]
                refine CallK.sem (CallSem.byref (hrec1 y1 y2 wl1 wl2) id (by simp) (by simp) (by simp [St.get, lk, isa_ren]) (by simp [isa_kept]) (by simp [keptA, AV.keys, lk, fM1]) rfl (by simp [AV.ren, fM1]) rfl rfl) ?_
                simp -implicitDefEqProofs [setsB, isa_ren]
                ((try simp only [and_true]); refine Weak.sub (by simp [lk, keptA, AV.keys, and_true]) ?_; simp only [and_true, List.cons_append, List.nil_append, List.mem_cons, List.not_mem_nil, or_false, forall_eq_or_imp, forall_eq, isa_kept, and_true]; (try simp [lk, keptO, keptA, AV.keys, and_true]))
              · have e9 : i = c := by omega
                have := sid (by rw [← e9]; exact wl1)
                simp -implicitDefEqProofs [y1, y2]
                rw [this]
                ((try simp only [and_true]); refine Weak.sub (by simp [lk, keptA, AV.keys, and_true]) ?_; simp only [and_true, List.cons_append, List.nil_append, List.mem_cons, List.not_mem_nil, or_false, forall_eq_or_imp, forall_eq, isa_kept, and_true]; (try simp [lk, keptO, keptA, AV.keys, and_true]))
            · have e9 : i = a := by omega
              have := sid (by rw [← e9]; exact wl2)
              simp -implicitDefEqProofs [y1]
              rw [this]
              ((try simp only [and_true]); refine Weak.sub (by simp [lk, keptA, AV.keys, and_true]) ?_; simp only [and_true, List.cons_append, List.nil_append, List.mem_cons, List.not_mem_nil, or_false, forall_eq_or_imp, forall_eq, isa_kept, and_true]; (try simp [lk, keptO, keptA, AV.keys, and_true]))
          · refine GO_AR mixed 1000 ?_
            by_cases y1 : c < e
            · by_cases y2 : e < b
              · have hr := hrec2 y1 y2 wr1 wr2
                rw [hstep] at hr
                simp -implicitDefEqProofs [y1, y2]
                refine CallK.sem (CallSem.byref hr id (by simp) (by simp) (by simp [St.get, lk, isa_ren]) (by simp [isa_kept]) (by simp [keptA, AV.keys, lk, fM1]) rfl (by simp [AV.ren, fM1]) rfl rfl) ?_
                simp -implicitDefEqProofs [setsB, isa_ren]
                refine ⟨[], rfl, rfl, ?_⟩
                simp [frzSt, newK, frz_isa]
              · have e9 : e = b := by omega
                have := sid2 (by rw [← e9]; exact wr1)
                rw [hstep] at this
                simp -implicitDefEqProofs [y1, y2]
                refine ⟨[], rfl, rfl, ?_⟩
                simp [frzSt, newK, frz_isa, this]
            · have e9 : e = c := by omega
              have := sid2 (by rw [← e9]; exact wr2)
              rw [hstep] at this
              simp -implicitDefEqProofs [y1]
              refine ⟨[], rfl, rfl, ?_⟩
              simp [frzSt, newK, frz_isa, this]
end
end Go.Proofs.YtdpmioiamcgfkaaDoor
