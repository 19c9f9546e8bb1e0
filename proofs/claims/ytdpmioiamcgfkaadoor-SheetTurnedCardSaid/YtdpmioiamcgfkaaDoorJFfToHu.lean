/-
  Parts: what the program's Explode computes, as a whole.
-/
import Derived.Test.YtdpmioiamcgfkaaDoorJEfToGf
import Derived.Test.YtdpmioiamcgfkaaDoorJAmOToMath
import Derived.Test.YtdpmioiamcgfkaaDoorProg
import Derived.Test.YtdpmioiamcgfkaaDoorJOpenToOpen
import Derived.Test.YtdpmioiamcgfkaaDoorJRowToRow
import Derived.Test.YtdpmioiamcgfkaaDoorJRcJToRcB
import Derived.Test.YtdpmioiamcgfkaaDoorJHaToHa
set_option linter.unusedSimpArgs false
set_option linter.unusedVariables false
namespace Go.Proofs.YtdpmioiamcgfkaaDoor
open Go.RowKit

/-- The state of the loop over the drawings. -/
def ptP (r : List Iss) (l : List (Int × Int)) (i : Nat) : St := if ptN (nums r) (mpG l) i = [] then ⟨[(37, .int .i64 i), (36, .int .i64 (nums r).length), (35, .vsl ((nums r).map ia)), (11, .ptr 11 0), (13, .nils)], [(11, .box [.mp 27]), (27, .mp (dpA l))]⟩
  else ⟨[(37, .int .i64 i), (36, .int .i64 (nums r).length), (35, .vsl ((nums r).map ia)), (11, .ptr 11 0), (13, .osl 52 (ptN (nums r) (mpG l) i).length)], [(11, .box [.mp 27]), (27, .mp (dpA l)), (52, .row 2 ((ptN (nums r) (mpG l) i).map ita))]⟩

section
variable {G : Nat → Option (List AV)}

theorem explP_pc (hG : GC G) (r : List Iss) (lt : List Int) (n : Int) (h : Wf r) : PC Tryd.prog G 33 [rega r, .vsl (lt.map ia), .int .i64 n] (.tup [.vsl ((exV r lt n).1.map ita), .int .i64 (exV r lt n).2]) := by
  by_cases e : askV r lt n = 0
  case neg =>
    refine PC.nzR (v := .tup [.nils, .int .i64 (askV r lt n)]) ?_ (by simp [nz, exV, e])
    (refine pc_sheet_Explode (Nat.le_of_ble_eq_true rfl) fun R hG hrd => GO_AR mixed 1000 ?_; subst hG)
    simp -implicitDefEqProofs [rc_sheet_Explode, rr_sheet_Explode, rega]
    (first | refine CallK.of (taken_pc hG r lt n h) (by simp) ?_ | refine CallD.of (taken_pc hG r lt n h) (by simp) ?_)
    simp -implicitDefEqProofs [takA, e]
  obtain ⟨ho, hlt, hn⟩ := ask_0 e
  have hL := open_listed ho
  have hl := listed_20 hL
  have hp := add_pb (G := G) r lt ho hlt 6 n 1 [] hn (dpN_bd ho hn).2
  have hm := paM_eq (T := tkV r lt) (D := nums r) (fun d hd => let q := iss_kind (listed_iss hL (tk_mem hL hlt hd).1); ⟨q.1, q.2.2.2⟩) (fun d hd => tk_its hL hlt hd) 6 n 1 [] hn
  have e0 : mpG [] = fun _ => 0 := by funext x; rfl
  have ev : exV r lt n = (ptN (nums r) (mpG (paM (tkV r lt) 6 n 1 [])) (nums r).length, 0) := by rw [exV, if_pos e, hm, e0]
  rw [ev]
  generalize paM (tkV r lt) 6 n 1 [] = l at *
  refine PC.nzR (v := .tup [if ptN (nums r) (mpG l) (nums r).length = [] then .nils else .vsl ((ptN (nums r) (mpG l) (nums r).length).map ita), .int .i64 0]) ?_ (by split <;> simp_all [nz])
  (refine pc_sheet_Explode (Nat.le_of_ble_eq_true rfl) fun R hG hrd => GO_AR mixed 1000 ?_; subst hG)
  simp -implicitDefEqProofs [rc_sheet_Explode, rr_sheet_Explode, rega]
  (first | refine CallK.of (taken_pc hG r lt n h) (by simp) ?_ | refine CallD.of (taken_pc hG r lt n h) (by simp) ?_)
  simp -implicitDefEqProofs [takA, e, one_byA]
  unfold byA
  simp -implicitDefEqProofs []
  refine CallK.sem (CallSem.byref hp (fun k => k - 1000) (by simp [exO]) (by simp [exO]) (by simp [exO, St.get, lk, ren_dpA, AObj.ren, AV.ren, ren_byA, map_dpA, byA]; try simp [dpA]) (exO_in _ _ _) (by simp [exO, keptA, AV.keys, lk]) rfl (by simp [AV.ren]) rfl rfl) ?_
  simp -implicitDefEqProofs [setsB, exO, ren_dpA, AObj.ren, AV.ren, ren_byA, map_dpA, bkA]
  refine AR_for (ptP r l) (fun _ => True) (nums r).length ?_ trivial ?_ ?_
  · have e0 : ptN (nums r) (mpG l) 0 = [] := rfl
    simp only [ptP, e0, if_true]
    ((try simp only [byA]); refine Weak.sub (by simp [lk, keptA, AV.keys, byA]) ?_; simp only [byA, List.cons_append, List.nil_append, List.mem_cons, List.not_mem_nil, or_false, forall_eq_or_imp, forall_eq, kept_dpA, and_true]; (try simp [lk, keptO, keptA, AV.keys, byA]))
  · intro i hi _
    refine GO_AR mixed 1000 ?_
    have w1 : IntKind.i64.wrap ((i : Int) + 1) = ((i + 1 : Nat) : Int) := wrapI (by omega) (by omega)
    have gd := get_dp (nums r)[i] l
    have hs := ptN_succ (g := mpG l) hi
    have bl := ptN_len (nums r) (mpG l) i
    have bb : ((ptN (nums r) (mpG l) i).length + 1) * 16 ≤ 70368744177664 := by omega
    by_cases c : 0 < mpG l (nums r)[i]
    · have q : dpLk (nums r)[i] l = some (mpG l (nums r)[i]) := by
        unfold mpG dpG at c ⊢
        cases q : dpLk (nums r)[i] l <;> simp_all
      rw [q] at gd
      rw [if_pos c] at hs
      by_cases e : ptN (nums r) (mpG l) i = []
      · rw [e] at hs
        simp -implicitDefEqProofs [ptP, e, hi, ia, gd, c, w1, hs]
        ((try simp only [ita]); refine Weak.sub (by simp [lk, keptA, AV.keys, ita]) ?_; simp only [ita, List.cons_append, List.nil_append, List.mem_cons, List.not_mem_nil, or_false, forall_eq_or_imp, forall_eq, kept_dpA, ita_kept, and_true]; (try simp [lk, keptO, keptA, AV.keys, ita]))
      · simp -implicitDefEqProofs [ptP, e, hi, ia, gd, c, w1, hs, bb]
        ((try simp only [ita]); refine Weak.sub (by simp [lk, keptA, AV.keys, ita]) ?_; simp only [ita, List.cons_append, List.nil_append, List.mem_cons, List.not_mem_nil, or_false, forall_eq_or_imp, forall_eq, kept_dpA, ita_kept, and_true]; (try simp [lk, keptO, keptA, AV.keys, ita]))
    · rw [if_neg c] at hs
      have q : (dpLk (nums r)[i] l).getD 0 = mpG l (nums r)[i] := rfl
      generalize dpLk (nums r)[i] l = o at gd q
      by_cases e : ptN (nums r) (mpG l) i = [] <;> cases o
      · rw [e] at hs
        simp -implicitDefEqProofs [ptP, e, hi, ia, gd, w1, hs]
        ((try simp only [ita]); refine Weak.sub (by simp [lk, keptA, AV.keys, ita]) ?_; simp only [ita, List.cons_append, List.nil_append, List.mem_cons, List.not_mem_nil, or_false, forall_eq_or_imp, forall_eq, kept_dpA, ita_kept, and_true]; (try simp [lk, keptO, keptA, AV.keys, ita]))
      · rw [e] at hs
        obtain rfl : _ = mpG l (nums r)[i] := q
        simp -implicitDefEqProofs [ptP, e, hi, ia, gd, c, w1, hs]
        ((try simp only [ita]); refine Weak.sub (by simp [lk, keptA, AV.keys, ita]) ?_; simp only [ita, List.cons_append, List.nil_append, List.mem_cons, List.not_mem_nil, or_false, forall_eq_or_imp, forall_eq, kept_dpA, ita_kept, and_true]; (try simp [lk, keptO, keptA, AV.keys, ita]))
      · simp -implicitDefEqProofs [ptP, e, hi, ia, gd, w1, hs]
        ((try simp only [ita]); refine Weak.sub (by simp [lk, keptA, AV.keys, ita]) ?_; simp only [ita, List.cons_append, List.nil_append, List.mem_cons, List.not_mem_nil, or_false, forall_eq_or_imp, forall_eq, kept_dpA, ita_kept, and_true]; (try simp [lk, keptO, keptA, AV.keys, ita]))
      · obtain rfl : _ = mpG l (nums r)[i] := q
        simp -implicitDefEqProofs [ptP, e, hi, ia, gd, c, w1, hs]
        ((try simp only [ita]); refine Weak.sub (by simp [lk, keptA, AV.keys, ita]) ?_; simp only [ita, List.cons_append, List.nil_append, List.mem_cons, List.not_mem_nil, or_false, forall_eq_or_imp, forall_eq, kept_dpA, ita_kept, and_true]; (try simp [lk, keptO, keptA, AV.keys, ita]))
  · intro _
    refine GO_AR mixed 1000 ?_
    by_cases e : ptN (nums r) (mpG l) (nums r).length = []
    · simp -implicitDefEqProofs [ptP, e]
      refine GO_ret mixed 1000 ?_
      simp -implicitDefEqProofs [e]
    · have pu : ((ptN (nums r) (mpG l) (nums r).length).map ita).all (fun r => r.all AV.pure) = true := by simp [ita, AV.pure]
      simp -implicitDefEqProofs [ptP, e]
      refine GO_ret mixed 1000 ?_
      simp -implicitDefEqProofs [e, pu]
end
end Go.Proofs.YtdpmioiamcgfkaaDoor

/-! Trees: what the program's Tree computes. -/
namespace Go.Proofs.YtdpmioiamcgfkaaDoor
open Go.RowKit

theorem map_bra (ρ : Nat → Nat) (l : List Brn) : (l.map bra).map (fun r => r.map (AV.ren ρ)) = l.map bra := by
  simp only [List.map_map]
  congr 1; funext p; simp [bra, AV.ren]
theorem map_bra1 (ρ : Nat → Nat) (a : Brn) : (bra a).map (AV.ren ρ) = bra a := by simp [bra, AV.ren]
theorem comp_bra (ρ : Nat → Nat) : ((fun r : List AV => r.map (AV.ren ρ)) ∘ bra) = bra := by funext a; exact map_bra1 ρ a
theorem frz_bra (ok : Nat → Bool) (st : St) (l : List Brn) : frzO ok st (.row 4 (l.map bra)) = .row 4 (l.map bra) := by
  simp only [frzO, List.map_map]
  congr 2; funext p; simp [bra, frzA, frz, AV.keys]
theorem frz_b4 (st : St) {ok : Nat → Bool} {k n : Nat} (h : ok k = false) : frzO ok st (.box [.osl k n]) = .box [.osl k n] := by simp [frzO, frzA, frz, h]

/-- What Tree's own function is handed. -/
def grO (K : Nat) (r : List Iss) (lt : List Int) (l : List Brn) : List (Nat × AObj) :=
  [(1009, .box [byA r lt]), (1011, .box [.osl K l.length]), (1012, .box [.func (.func 80) [] [.ptr 1011 0, .ptr 1009 0, .ptr 1012 0]]), (K, .row 4 (l.map bra))]
/-- The same, where nothing is there yet. -/
def grZ (r : List Iss) (lt : List Int) : List (Nat × AObj) :=
  [(1009, .box [byA r lt]), (1011, .box [.nils]), (1012, .box [.func (.func 80) [] [.ptr 1011 0, .ptr 1009 0, .ptr 1012 0]])]
def grS (K : Nat) (r : List Iss) (lt : List Int) (dep : Int) (x : Iss) (l : List Brn) (i : Nat) : St := ⟨[(31, .int .i64 i), (30, .int .i64 x.its.length), (29, .vsl (x.its.map ita)), (0, .int .i64 dep), (4, .ptr 1012 0)], grO K r lt l⟩
theorem grO_in (r : List Iss) (lt : List Int) (l : List Brn) : ∀ p ∈ grO 1027 r lt l, keptO (grO 1027 r lt l) p.2 = true := by
  simp only [grO, List.mem_cons, List.not_mem_nil, or_false, forall_eq_or_imp, forall_eq, bra_kept, and_true]
  simp [lk, keptO, keptA, AV.keys, keys_byA]
theorem grZ_in (r : List Iss) (lt : List Int) : ∀ p ∈ grZ r lt, keptO (grZ r lt) p.2 = true := by
  simp only [grZ, List.mem_cons, List.not_mem_nil, or_false, forall_eq_or_imp, forall_eq]
  simp [lk, keptO, keptA, AV.keys, keys_byA]

section
variable {G : Nat → Option (List AV)}

theorem grow_pb (r : List Iss) (lt : List Int) (ho : openV r = 0) (hlt : ltB r lt = true) : ∀ (k : Nat) (n dep c : Int) (l : List Brn), n ∈ nums r → dpN r n ≤ k → 0 ≤ dep → dep + k ≤ 1000 → l.length ≤ 501 →
    PB Tryd.prog G 80 (grO 1027 r lt l) [.int .i64 dep, .agg [.int .i64 n, .int .i64 c], .ptr 1011 0, .ptr 1009 0, .ptr 1012 0] (.tup []) (grO 1027 r lt (grV (tkV r lt) k dep n c l))
  | 0, n, _, _, _, hn, hd, _, _, _ => (dp_pos ho hn hd).elim
  | k + 1, n, dep, c, l, hn, hd, hd0, hd1, h5 => by
    have hL := open_listed ho
    have wd : IntKind.i64.wrap (dep + 1) = dep + 1 := wrapI (by omega) (by omega)
    have hrec := fun y (hy : y ∈ (tkV r lt n).its) => fun l h5 => grow_pb r lt ho hlt k y.1 (dep + 1) y.2 l (dp_its ho hlt hn hd hy).1 (dp_its ho hlt hn hd hy).2 (by omega) (by omega) h5
    have gb := get_mp isA n (byN r lt (nums r).length)
    rw [byN_get hn] at gb
    have h8 := tk_8 ho hlt n hn
    have hxd := (tk_mem hL hlt hn).2
    rw [grV]
    by_cases c5 : 500 < l.length
    · have c5' : (500 : Int) < l.length := by omega
      rw [if_pos c5]
      (refine pb_sheet_Tree_1 (Nat.le_of_ble_eq_true rfl) fun R hG hrd => GO_AR mixed 1000 ?_; subst hG)
      simp -implicitDefEqProofs [rc_sheet_Tree_1, rr_sheet_Tree_1, grO, c5', FinB, frzSt, newK, frz_bra, frz_b1, frz_b4, frz_b3]
    have c5' : ¬ (500 : Int) < l.length := by omega
    rw [if_neg c5]
    generalize tkV r lt n = x at *
    subst hxd
    obtain ⟨l1, hl1⟩ : ∃ l1, l1 = l ++ [⟨dep, x.d, x.l, c⟩] := ⟨_, rfl⟩
    have hl1m : l1.map bra = l.map bra ++ [[.int .i64 dep, .int .i64 x.d, .int .i64 x.l, .int .i64 c]] := by rw [hl1, List.map_append]; rfl
    have hl1l : l1.length = l.length + 1 := by rw [hl1]; simp
    have b5 : (l.length + 1) * 32 ≤ 70368744177664 := by omega
    rw [← hl1]
    have fl5 : ∀ (its : List (Int × Int)) (l : List Brn), l.length ≤ 501 → (its.foldl (fun l y => grV (tkV r lt) k (dep + 1) y.1 y.2 l) l).length ≤ 501 := by
      intro its
      induction its with
      | nil => intro l h; exact h
      | cons y its ih => intro l h; exact ih _ (grV_501 k _ _ _ _ h)
    (refine pb_sheet_Tree_1 (Nat.le_of_ble_eq_true rfl) fun R hG hrd => GO_AR mixed 1000 ?_; subst hG)
    have key : ∀ (st : St), Weak st (grS 1027 r lt dep x l1 0) → AR Tryd.prog R (lastLp rc_sheet_Tree_1) st (RetP Tryd.prog R [KF.bk 0] (FinB [] (.tup []) (grO 1027 r lt (x.its.foldl (fun l y => grV (tkV r lt) k (dep + 1) y.1 y.2 l) l1)))) := by
      intro st hw
      refine AR_for (fun i => grS 1027 r lt dep x ((x.its.take i).foldl (fun l y => grV (tkV r lt) k (dep + 1) y.1 y.2 l) l1) i) (fun _ => True) x.its.length (by simpa using hw) trivial ?_ ?_
      · intro i hi _
        refine GO_AR mixed 1000 ?_
        have w1 : IntKind.i64.wrap ((i : Int) + 1) = ((i + 1 : Nat) : Int) := wrapI (by omega) (by omega)
        have ft := fold_take (fun l (y : Int × Int) => grV (tkV r lt) k (dep + 1) y.1 y.2 l) l1 x.its i hi
        have hr := hrec x.its[i] (List.getElem_mem hi) ((x.its.take i).foldl (fun l y => grV (tkV r lt) k (dep + 1) y.1 y.2 l) l1) (fl5 _ _ (by omega))
        generalize (x.its.take i).foldl (fun l y => grV (tkV r lt) k (dep + 1) y.1 y.2 l) l1 = l2 at *
        simp -implicitDefEqProofs [lastLp, rc_sheet_Tree_1, grS, grO, hi, ita, wd]
        refine CallK.sem (CallSem.byref hr id (by simp [grO]) (by simp [grO]) (by simp [grO, St.get, lk, AObj.ren, AV.ren, ren_byA, map_bra, map_bra1]) (grO_in _ _ _) (by simp [grO, keptA, AV.keys, lk]) rfl (by simp [AV.ren]) rfl rfl) ?_
        simp -implicitDefEqProofs [setsB, grO, AObj.ren, AV.ren, ren_byA, map_bra, map_bra1, w1]
        ((try simp only [grS, grO, byA, ft, map_bra1]); refine Weak.sub (by simp [lk, keptA, AV.keys, grS, grO, byA, ft, map_bra1]) ?_; simp only [grS, grO, byA, ft, map_bra1, List.cons_append, List.nil_append, List.mem_cons, List.not_mem_nil, or_false, forall_eq_or_imp, forall_eq, bra_kept, and_true]; (try simp [lk, keptO, keptA, AV.keys, grS, grO, byA, ft, map_bra1]))
      · intro _
        refine GO_AR mixed 1000 ?_
        simp -implicitDefEqProofs [lastLp, rc_sheet_Tree_1, grS, grO]
        refine GO_ret mixed 1000 ?_
        simp -implicitDefEqProofs [FinB, frzSt, newK, frz_bra, frz_b1, frz_b4, frz_b3, grO]
    simp -implicitDefEqProofs [rc_sheet_Tree_1, rr_sheet_Tree_1, grO, byA, gb, isA, isa, c5', b5]
    exact key _ (by simp only [← hl1m]; ((try simp only [grS, grO, byA, hl1l]); refine Weak.sub (by simp [lk, keptA, AV.keys, grS, grO, byA, hl1l]) ?_; simp only [grS, grO, byA, hl1l, List.cons_append, List.nil_append, List.mem_cons, List.not_mem_nil, or_false, forall_eq_or_imp, forall_eq, bra_kept, and_true]; (try simp [lk, keptO, keptA, AV.keys, grS, grO, byA, hl1l])))

/-- What stays at the end of Tree's own function, where the list has begun. -/
def okT : Nat → Bool := fun k => decide (k < 1000) && decide (k ≠ 27)
theorem grow0_pb (r : List Iss) (lt : List Int) (ho : openV r = 0) (hlt : ltB r lt = true) (k : Nat) (n dep c : Int) (hn : n ∈ nums r) (hd : dpN r n ≤ k + 1) (hd0 : 0 ≤ dep) (hd1 : dep + (k + 1 : Nat) ≤ 1000) :
    PB Tryd.prog G 80 (grZ r lt) [.int .i64 dep, .agg [.int .i64 n, .int .i64 c], .ptr 1011 0, .ptr 1009 0, .ptr 1012 0] (.tup []) (grO 27 r lt (grV (tkV r lt) (k + 1) dep n c [])) := by
  have hL := open_listed ho
  have wd : IntKind.i64.wrap (dep + 1) = dep + 1 := wrapI (by omega) (by omega)
  have hrec := fun y (hy : y ∈ (tkV r lt n).its) => fun l h5 => grow_pb (G := G) r lt ho hlt k y.1 (dep + 1) y.2 l (dp_its ho hlt hn hd hy).1 (dp_its ho hlt hn hd hy).2 (by omega) (by omega) h5
  have gb := get_mp isA n (byN r lt (nums r).length)
  rw [byN_get hn] at gb
  have h8 := tk_8 ho hlt n hn
  have hxd := (tk_mem hL hlt hn).2
  rw [grV, if_neg (by simp), List.nil_append]
  generalize tkV r lt n = x at *
  subst hxd
  obtain ⟨l1, hl1⟩ : ∃ l1 : List Brn, l1 = [⟨dep, x.d, x.l, c⟩] := ⟨_, rfl⟩
  have hl1m : l1.map bra = [[.int .i64 dep, .int .i64 x.d, .int .i64 x.l, .int .i64 c]] := by rw [hl1]; rfl
  have hl1l : l1.length = 1 := by rw [hl1]; simp
  rw [← hl1]
  have fl5 : ∀ (its : List (Int × Int)) (l : List Brn), l.length ≤ 501 → (its.foldl (fun l y => grV (tkV r lt) k (dep + 1) y.1 y.2 l) l).length ≤ 501 := by
    intro its
    induction its with
    | nil => intro l h; exact h
    | cons y its ih => intro l h; exact ih _ (grV_501 k _ _ _ _ h)
  refine PBo_of okT (by intro k hk; simp [okT] at hk; omega) Tryd.func80 rfl (by kernel_rfl) (rc := rc_sheet_Tree_1) (by kernel_rfl) (rs := rr_sheet_Tree_1) (by kernel_rfl) (Nat.le_of_ble_eq_true rfl) fun R _ hG hrd => GO_AR mixed 1000 ?_
  subst hG
  have key : ∀ (st : St), Weak st (grS 27 r lt dep x l1 0) → AR Tryd.prog R (lastLp rc_sheet_Tree_1) st (RetP Tryd.prog R [KF.bk 0] (FinO okT [] (.tup []) (grO 27 r lt (x.its.foldl (fun l y => grV (tkV r lt) k (dep + 1) y.1 y.2 l) l1)))) := by
    intro st hw
    refine AR_for (fun i => grS 27 r lt dep x ((x.its.take i).foldl (fun l y => grV (tkV r lt) k (dep + 1) y.1 y.2 l) l1) i) (fun _ => True) x.its.length (by simpa using hw) trivial ?_ ?_
    · intro i hi _
      refine GO_AR mixed 1000 ?_
      have w1 : IntKind.i64.wrap ((i : Int) + 1) = ((i + 1 : Nat) : Int) := wrapI (by omega) (by omega)
      have ft := fold_take (fun l (y : Int × Int) => grV (tkV r lt) k (dep + 1) y.1 y.2 l) l1 x.its i hi
      have hr := hrec x.its[i] (List.getElem_mem hi) ((x.its.take i).foldl (fun l y => grV (tkV r lt) k (dep + 1) y.1 y.2 l) l1) (fl5 _ _ (by omega))
      generalize (x.its.take i).foldl (fun l y => grV (tkV r lt) k (dep + 1) y.1 y.2 l) l1 = l2 at *
      simp -implicitDefEqProofs [lastLp, rc_sheet_Tree_1, grS, grO, hi, ita, wd]
      refine CallK.sem (CallSem.byref hr (fun k => if k = 1027 then 27 else k) (by simp [grO]) (by simp [grO]) (by simp [grO, St.get, lk, AObj.ren, AV.ren, ren_byA, map_bra, map_bra1]) (grO_in _ _ _) (by simp [grO, keptA, AV.keys, lk]) rfl (by simp [AV.ren]) rfl rfl) ?_
      simp -implicitDefEqProofs [setsB, grO, AObj.ren, AV.ren, ren_byA, map_bra, map_bra1, w1]
      ((try simp only [grS, grO, byA, ft, map_bra1]); refine Weak.sub (by simp [lk, keptA, AV.keys, grS, grO, byA, ft, map_bra1]) ?_; simp only [grS, grO, byA, ft, map_bra1, List.cons_append, List.nil_append, List.mem_cons, List.not_mem_nil, or_false, forall_eq_or_imp, forall_eq, bra_kept, and_true]; (try simp [lk, keptO, keptA, AV.keys, grS, grO, byA, ft, map_bra1]))
    · intro _
      refine GO_AR mixed 1000 ?_
      simp -implicitDefEqProofs [lastLp, rc_sheet_Tree_1, grS, grO]
      refine GO_ret mixed 1000 ?_
      simp -implicitDefEqProofs [FinO, frzSt, okT, frz_bra, frz_b1, frz_b4, frz_b3, grO]
  simp -implicitDefEqProofs [rc_sheet_Tree_1, rr_sheet_Tree_1, grZ, byA, gb, isA, isa]
  exact key _ (by simp only [← hl1m]; ((try simp only [grS, grO, byA, hl1l]); refine Weak.sub (by simp [lk, keptA, AV.keys, grS, grO, byA, hl1l]) ?_; simp only [grS, grO, byA, hl1l, List.cons_append, List.nil_append, List.mem_cons, List.not_mem_nil, or_false, forall_eq_or_imp, forall_eq, bra_kept, and_true]; (try simp [lk, keptO, keptA, AV.keys, grS, grO, byA, hl1l])))

theorem treeP_pc (hG : GC G) (r : List Iss) (lt : List Int) (n : Int) (h : Wf r) : PC Tryd.prog G 35 [rega r, .vsl (lt.map ia), .int .i64 n] (.tup [.vsl ((trE r lt n).1.map bra), .int .i64 (trE r lt n).2]) := by
  by_cases e : askV r lt n = 0
  case neg =>
    refine PC.nzR (v := .tup [.nils, .int .i64 (askV r lt n)]) ?_ (by simp [nz, trE, e])
    (refine pc_sheet_Tree (Nat.le_of_ble_eq_true rfl) fun R hG hrd => GO_AR mixed 1000 ?_; subst hG)
    simp -implicitDefEqProofs [rc_sheet_Tree, rr_sheet_Tree, rega]
    (first | refine CallK.of (taken_pc hG r lt n h) (by simp) ?_ | refine CallD.of (taken_pc hG r lt n h) (by simp) ?_)
    simp -implicitDefEqProofs [takA, e]
  obtain ⟨ho, hlt, hn⟩ := ask_0 e
  have hp := grow0_pb (G := G) r lt ho hlt 5 n 0 1 hn (dpN_bd ho hn).2 (Int.le_refl _) (by omega)
  obtain ⟨g1, g2⟩ := grV_eq (T := tkV r lt) 6 0 n 1 []
  have g3 := trV_brN (T := tkV r lt) 6 0 n 1
  rw [List.nil_append, g3] at g1 g2
  by_cases c : 500 < brN (tkV r lt) 6 n
  · have c' := g2 c
    refine PC.nzR (v := .tup [.nils, .int .i64 4]) ?_ (by simp [nz, trE, e, c])
    generalize grV (tkV r lt) 6 0 n 1 [] = l at *
    have c2 : (500 : Int) < l.length := by omega
    (refine pc_sheet_Tree (Nat.le_of_ble_eq_true rfl) fun R hG hrd => GO_AR mixed 1000 ?_; subst hG)
    simp -implicitDefEqProofs [rc_sheet_Tree, rr_sheet_Tree, rega]
    (first | refine CallK.of (taken_pc hG r lt n h) (by simp) ?_ | refine CallD.of (taken_pc hG r lt n h) (by simp) ?_)
    simp -implicitDefEqProofs [takA, e, one_byA]
    unfold byA
    simp -implicitDefEqProofs []
    refine CallK.sem (CallSem.refn hp (fun k => if 1000 ≤ k then k - 1000 else k) (by simp [grZ]) (by simp [grO]) (by simp [grZ, St.get, lk, AObj.ren, AV.ren, ren_byA, byA]) (grZ_in _ _) (by simp [grZ, keptA, AV.keys, lk]) (by simp [grZ, grO, isK, lk]) (by simp [grZ, grO, isK, lk, St.get]) (by simp [AV.ren]) rfl rfl) ?_
    simp -implicitDefEqProofs [setsB, grO, AObj.ren, AV.ren, ren_byA, map_bra, map_bra1, c2]
  · have c' := g1 (by omega)
    have ev : trE r lt n = (grV (tkV r lt) 6 0 n 1 [], 0) := by rw [trE, if_pos e, if_neg c, c']
    rw [ev]
    have lb : (grV (tkV r lt) 6 0 n 1 []).length ≤ 500 := by rw [c', g3]; omega
    generalize grV (tkV r lt) 6 0 n 1 [] = l at *
    have c2 : ¬ (500 : Int) < l.length := by omega
    have pu := (bra_all l).2.2
    (refine pc_sheet_Tree (Nat.le_of_ble_eq_true rfl) fun R hG hrd => GO_AR mixed 1000 ?_; subst hG)
    simp -implicitDefEqProofs [rc_sheet_Tree, rr_sheet_Tree, rega]
    (first | refine CallK.of (taken_pc hG r lt n h) (by simp) ?_ | refine CallD.of (taken_pc hG r lt n h) (by simp) ?_)
    simp -implicitDefEqProofs [takA, e, one_byA]
    unfold byA
    simp -implicitDefEqProofs []
    refine CallK.sem (CallSem.refn hp (fun k => if 1000 ≤ k then k - 1000 else k) (by simp [grZ]) (by simp [grO]) (by simp [grZ, St.get, lk, AObj.ren, AV.ren, ren_byA, byA]) (grZ_in _ _) (by simp [grZ, keptA, AV.keys, lk]) (by simp [grZ, grO, isK, lk]) (by simp [grZ, grO, isK, lk, St.get]) (by simp [AV.ren]) rfl rfl) ?_
    simp -implicitDefEqProofs [setsB, grO, AObj.ren, AV.ren, ren_byA, map_bra, map_bra1, comp_bra, c2, pu]
end
end Go.Proofs.YtdpmioiamcgfkaaDoor

/-! The abstract machine's code of functions of the program, as a program of ours printed it; that it is theirs is proved beside each. -/
namespace Go.Proofs.YtdpmioiamcgfkaaDoor
open Go.RowKit

end Go.Proofs.YtdpmioiamcgfkaaDoor

/-! The law SheetTells, by the abstract machine. -/
namespace Go.Proofs.YtdpmioiamcgfkaaDoor
open Go.RowKit

section
variable {G : Nat → Option (List AV)}

end
end Go.Proofs.YtdpmioiamcgfkaaDoor

/-! What the rows of layer 2 share: the list of checks as the rows list it; registers that came in. -/
namespace Go.Proofs.YtdpmioiamcgfkaaDoor
open Go.ChangeShapes Go.WideShapes Go.ChangeAt Go.WideMaps Go.WideElems Go.RowKit Go.Deep

theorem own : ownKnob Tryd.prog.godebug = none := by kernel_rfl
theorem laidOut : laidOutB Tryd.prog = true := by kernel_rfl
theorem gChecks : Tryd.prog.globalNamed "blueline/sheet.checks" = some 0 := by kernel_rfl
theorem tChecks : (Tryd.prog.globals[0]?).map (·.type) = some 159 := by kernel_rfl

/-- The rows' list of variables. -/
def laid2 : List (String × DataW Unit) := [("blueline/sheet.checks", Rows.laid_blueline_sheet_checks)]

/-- The door's own heap meets the condition. -/
theorem door_met (os : Os) (args : Array Value) : laidMetH Tryd.prog laid2 ((World.doorLaid Tryd.prog 41 os).forCall (fun _ _ => 0) ⟨#[], args, []⟩).memory :=
  laidMetH_of_parts3 (fuel := 8) (laidMet_of_run' 8 (by kernel_rfl) (by kernel_rfl)) (by kernel_rfl) (by kernel_rfl)

theorem cF : Tryd.prog.cellsOf 157 = 1 := by kernel_rfl
theorem checkC : Tryd.prog.cellsOf 158 = 1 := by kernel_rfl

/-- The block of the checks. -/
def ChkB (W : World) : Prop := ∃ t fr, W.heap[0]? = some (.cells #[.func (.func 157) #[] #[], .func (.func 158) #[] #[], .func (.func 159) #[] #[], .func (.func 160) #[] #[]] t fr)

theorem list4 {α : Type} {l : List α} (h : l.length = 4) : ∃ c0 c1 c2 c3, l = [c0, c1, c2, c3] := by
  match l, h with
  | [c0, c1, c2, c3], _ => exact ⟨c0, c1, c2, c3, rfl⟩

theorem cell_func {W : World} {fuel : Nat} {c : Value} {y : DataW (List UInt8) × List MemPlace} {b : UInt8} {s : List UInt8} {f0 : FuncId} (hone : ((List.range Tryd.prog.funcs.size).filter fun f => (Tryd.prog.funcs[f]?).any (·.name.toUTF8.data.toList == b :: s)) = [f0])
    (h : DataW.trod (funcToken Tryd.prog) Tryd.prog W 0 (fun _ => true) true fuel 158 [c] = some y) (hy : y.1 = .agg [.held (b :: s)]) : c = .func (.func f0) #[] #[] := by
  obtain ⟨y0, n, rfl, -, h0⟩ := trod_struct1 Tryd.underlying158 h
  simp only [List.drop_zero] at h0
  rw [cF] at h0
  simp only [DataW.agg.injEq, List.cons.injEq, and_true] at hy
  exact func_of_trod (q := y0.2) Tryd.underlying157 hone (by rw [← hy]; simpa using h0)

set_option maxRecDepth 100000 in
theorem of_laid {W : World} (h : laidMetH Tryd.prog laid2 W) : ChkB W := by
  obtain ⟨g, t, cs, fuel, p, hg, ht, hv, hd⟩ := h.funcs (List.mem_singleton.2 rfl)
  obtain rfl := Option.some.inj (gChecks.symm.trans hg)
  obtain rfl := Option.some.inj (tChecks.symm.trans ht)
  have hd' : DataW.trod (funcToken Tryd.prog) Tryd.prog W 0 (fun _ => true) true fuel 159 cs.toList = some (.agg [.agg [.held [98, 108, 117, 101, 108, 105, 110, 101, 47, 115, 104, 101, 101, 116, 46, 99, 104, 101, 99, 107, 115, 36, 49]], .agg [.held [98, 108, 117, 101, 108, 105, 110, 101, 47, 115, 104, 101, 101, 116, 46, 99, 104, 101, 99, 107, 115, 36, 50]], .agg [.held [98, 108, 117, 101, 108, 105, 110, 101, 47, 115, 104, 101, 101, 116, 46, 99, 104, 101, 99, 107, 115, 36, 51]], .agg [.held [98, 108, 117, 101, 108, 105, 110, 101, 47, 115, 104, 101, 101, 116, 46, 99, 104, 101, 99, 107, 115, 36, 52]]], p) := hd
  obtain ⟨xs, m, rfl, hx, hlen, hn, hel⟩ := DataW.trod_array Tryd.underlying159 hd'
  have hlen4 : cs.toList.length = 4 := hlen.trans (by kernel_rfl)
  obtain ⟨c0, c1, c2, c3, hcs⟩ := list4 hlen4
  rw [hcs] at hel
  have e0 := hel 0 (by decide)
  have e1 := hel 1 (by decide)
  have e2 := hel 2 (by decide)
  have e3 := hel 3 (by decide)
  rw [checkC] at e0 e1 e2 e3
  match xs, hn, hx, e0, e1, e2, e3 with
  | [x0, x1, x2, x3], _, hx, e0, e1, e2, e3 =>
    simp only [Prod.mk.injEq] at hx
    have hx := hx.1
    simp only [List.map_cons, List.map_nil, DataW.agg.injEq, List.cons.injEq] at hx
    obtain ⟨hx0, hx1, hx2, hx3, -⟩ := hx
    have g0 := cell_func (f0 := 157) (by kernel_rfl) e0 hx0.symm
    have g1 := cell_func (f0 := 158) (by kernel_rfl) e1 hx1.symm
    have g2 := cell_func (f0 := 159) (by kernel_rfl) e2 hx2.symm
    have g3 := cell_func (f0 := 160) (by kernel_rfl) e3 hx3.symm
    have hcs2 : cs = #[c0, c1, c2, c3] := by rw [← Array.toArray_toList (xs := cs), hcs]
    rw [g0, g1, g2, g3] at hcs2
    simp only [World.var?, gChecks, Option.bind_some] at hv
    split at hv
    · rename_i cs' t fr heq
      injection hv with hv
      exact ⟨t, fr, by rw [heq, hv, hcs2]⟩
    · cases hv

/-- The program's variables that the walks look at. -/
def G2 : Nat → Option (List AV) := fun g => if g = 0 then some [.func (.func 157) [] [], .func (.func 158) [] [], .func (.func 159) [] [], .func (.func 160) [] []] else none
theorem gc_of : GC G2 := rfl
theorem gr_of {W : World} (h : ChkB W) : GR G2 noM W := by
  obtain ⟨t, fr, hb⟩ := h
  intro g cs hg
  simp only [G2] at hg
  split at hg <;> simp only [Option.some.injEq, reduceCtorEq] at hg
  rename_i e
  subst e; subst hg
  refine .vptr _ 0 0 0 (fun j => ((#[.func (.func 157) #[] #[], .func (.func 158) #[] #[], .func (.func 159) #[] #[], .func (.func 160) #[] #[]] : Array Value)[j]?).getD undef) (Array.getElem?_eq_some_iff.1 hb).1 id ?_ ?_
  · intro j hj
    have hj' : j < 4 := by simpa using hj
    simp only [World.cell?, hb]
    match j, hj' with
    | 0, _ => rfl
    | 1, _ => rfl
    | 2, _ => rfl
    | 3, _ => rfl
  · intro j x hx
    have hfn : ∀ fn : Fn, PV noM W (.func fn [] []) (.func fn #[] #[]) := fun fn => .func fn [] [] #[] #[] rfl rfl (by simp) (by simp)
    match j, hx with
    | 0, hx => cases hx; exact hfn _
    | 1, hx => cases hx; exact hfn _
    | 2, hx => cases hx; exact hfn _
    | 3, hx => cases hx; exact hfn _

/-- What a law's contract says of a call from outside. -/
theorem law_calls {P : Program} {G : Nat → Option (List AV)} {f : FuncId} {args : List AV} {W : World} {vs : Array Value} (h : PC P G f args (.bool true)) (hG : GR G noM W) (hs : vs.size = args.length)
    (hv : ∀ (i : Nat) (x : AV) (u : Value), args[i]? = some x → vs[i]? = some u → PV noM W x u) : Calls P f vs W fun e W' => e = .returned (.bool true) ∧ Ext W W' :=
  (h.2 noM W vs (fun _ h => h.elim) hG hs hv).mono fun e W' ⟨v, h1, h2, h3⟩ => by
    cases h2
    exact ⟨h1, h3⟩

/-! Registers that came in. -/
def itK : List TY := [.int .i64, .int .i64]
def dmK : List TY := [.int .i64, .int .i64, .int .i64]
def isK2 : List TY := [.int .i64, .int .i64, .int .u8, .sl itK, .sl dmK]
theorem pair_inv {xs : List AV} (h : TVs itK xs) : ∃ p : Int × Int, xs = ita p := by
  obtain ⟨x0, _, rfl, h0, h⟩ := h.cons_inv
  obtain ⟨x1, _, rfl, h1, h⟩ := h.cons_inv
  obtain rfl := h.nil_inv
  obtain ⟨n, rfl, -⟩ := h0.int_inv
  obtain ⟨l, rfl, -⟩ := h1.int_inv
  exact ⟨(n, l), rfl⟩
theorem dm_inv {xs : List AV} (h : TVs dmK xs) : ∃ d : Dm, xs = dma d := by
  obtain ⟨x0, _, rfl, h0, h⟩ := h.cons_inv
  obtain ⟨x1, _, rfl, h1, h⟩ := h.cons_inv
  obtain ⟨x2, _, rfl, h2, h⟩ := h.cons_inv
  obtain rfl := h.nil_inv
  obtain ⟨n, rfl, -⟩ := h0.int_inv
  obtain ⟨l, rfl, -⟩ := h1.int_inv
  obtain ⟨u, rfl, -⟩ := h2.int_inv
  exact ⟨⟨n, l, u⟩, rfl⟩
def KOk (x : Iss) : Prop := 0 ≤ x.k ∧ x.k ≤ 255
theorem iss_inv {xs : List AV} (h : TVs isK2 xs) : ∃ x : Iss, xs = isa x ∧ KOk x := by
  obtain ⟨x0, _, rfl, h0, h⟩ := h.cons_inv
  obtain ⟨x1, _, rfl, h1, h⟩ := h.cons_inv
  obtain ⟨x2, _, rfl, h2, h⟩ := h.cons_inv
  obtain ⟨x3, _, rfl, h3, h⟩ := h.cons_inv
  obtain ⟨x4, _, rfl, h4, h⟩ := h.cons_inv
  obtain rfl := h.nil_inv
  obtain ⟨n, rfl, -⟩ := h0.int_inv
  obtain ⟨l, rfl, -⟩ := h1.int_inv
  obtain ⟨k, rfl, hk⟩ := h2.int_inv
  obtain ⟨r3, rfl, -, g3⟩ := h3.sl_inv
  obtain ⟨r4, rfl, -, g4⟩ := h4.sl_inv
  obtain ⟨its, rfl⟩ := rows_map (f := ita) fun r hr => pair_inv (g3 r hr)
  obtain ⟨dms, rfl⟩ := rows_map (f := dma) fun r hr => dm_inv (g4 r hr)
  exact ⟨⟨n, l, k, its, dms⟩, rfl, bounds_u8 hk⟩
theorem rows_mapP {α β : Type} {f : α → β} {p : α → Prop} {rows : List β} (h : ∀ r ∈ rows, ∃ d, r = f d ∧ p d) : ∃ l : List α, rows = l.map f ∧ ∀ x ∈ l, p x := by
  induction rows with
  | nil => exact ⟨[], rfl, by simp⟩
  | cons r rows ih =>
    obtain ⟨d, rfl, hd⟩ := h r (List.mem_cons_self ..)
    obtain ⟨l, rfl, hl⟩ := ih fun r hr => h r (List.mem_cons_of_mem _ hr)
    exact ⟨d :: l, rfl, fun x hx => by
      rcases List.mem_cons.1 hx with rfl | hx
      · exact hd
      · exact hl x hx⟩
theorem reg_inv {xs : List AV} (h : TVs [.sl isK2] xs) : ∃ r : List Iss, AV.agg xs = rega r ∧ ∀ x ∈ r, KOk x := by
  obtain ⟨x0, _, rfl, h0, h⟩ := h.cons_inv
  obtain rfl := h.nil_inv
  obtain ⟨rows, rfl, -, g⟩ := h0.sl_inv
  obtain ⟨r, rfl, hr⟩ := rows_mapP (f := isa) (p := KOk) fun r hr => iss_inv (g r hr)
  exact ⟨r, rfl, hr⟩

theorem greatA_pc {G : Nat → Option (List AV)} (r : List Iss) : PC Tryd.prog G 18 [rega r] (.bool (greatB r)) := by
  by_cases h1 : 80 < r.length
  · (refine pc_ref02_Great (Nat.le_of_ble_eq_true rfl) fun R hG hrd => GO_AR mixed 1000 ?_; subst hG)
    have h1' : (80 : Int) < r.length := by omega
    simp -implicitDefEqProofs [rc_ref02_Great, rr_ref02_Great, rega, h1', greatB, h1]
  · exact great_pc r (by unfold Sml; omega)
theorem great_wf {r : List Iss} (h : greatB r = false) (hk : ∀ x ∈ r, KOk x) : Wf r := by
  simp only [greatB, Bool.or_eq_false_iff, decide_eq_false_iff_not, List.any_eq_false, Bool.or_eq_true, decide_eq_true_eq, not_or] at h
  exact ⟨⟨by unfold Sml; omega, fun x hx => by have := h.2 x hx; unfold Sml; omega⟩, hk⟩
end Go.Proofs.YtdpmioiamcgfkaaDoor

/-! The law SheetParts, by the abstract machine. -/
namespace Go.Proofs.YtdpmioiamcgfkaaDoor
open Go.RowKit

section
variable {G : Nat → Option (List AV)}

end
end Go.Proofs.YtdpmioiamcgfkaaDoor

/-! The law SheetUses, by the abstract machine. -/
namespace Go.Proofs.YtdpmioiamcgfkaaDoor
open Go.RowKit

section
variable {G : Nat → Option (List AV)}

end
end Go.Proofs.YtdpmioiamcgfkaaDoor

/-! Names of issues compared, registers' issues one behind the other. -/
namespace Go.Proofs.YtdpmioiamcgfkaaDoor
open Go.RowKit

def okN (x : Iss) : Prop := 1 ≤ x.d ∧ x.d ≤ 9999 ∧ 1 ≤ x.l ∧ x.l ≤ 8
def cmpN (x y : Iss) : Int := if x.d - y.d = 0 then x.l - y.l else x.d - y.d

section
variable {G : Nat → Option (List AV)}

theorem or_pc (a b : Int) : PC Tryd.prog G 93 [.vsl [[.int .i64 a], [.int .i64 b]]] (.int .i64 (if a = 0 then b else a)) := by
  (refine pc_cmp_Or_int (Nat.le_of_ble_eq_true rfl) fun R hG hrd => GO_AR mixed 1000 ?_; subst hG)
  simp -implicitDefEqProofs [rc_cmp_Or_int, rr_cmp_Or_int]
  refine AR_for (fun i => ⟨[(8, .int .i64 i), (7, .int .i64 2), (6, .vsl [[.int .i64 a], [.int .i64 b]]), (3, .int .i64 0)], []⟩) (fun i => (0 < i → a = 0) ∧ (1 < i → b = 0)) 2 (by (first | exact Weak.tm (by simp [lk]) | exact Weak.sub (by simp [lk, keptA, AV.keys]) (by simp [lk, keptO, keptA, AV.keys]))) (by simp) ?_ ?_
  · intro i hi he
    refine GO_AR mixed 1000 ?_
    match i, hi, he with
    | 0, _, _ =>
      have w1 : IntKind.i64.wrap 1 = 1 := rfl
      by_cases h : a = 0
      · simp -implicitDefEqProofs [h, w1]
        (first | exact Weak.tm (by simp [lk]) | exact Weak.sub (by simp [lk, keptA, AV.keys]) (by simp [lk, keptO, keptA, AV.keys]))
      · simp -implicitDefEqProofs [h]
        refine GO_ret mixed 1000 ?_
        simp -implicitDefEqProofs [h]
    | 1, _, he =>
      have h0 := he.1 (by omega)
      have w1 : IntKind.i64.wrap 2 = 2 := rfl
      by_cases h : b = 0
      · simp -implicitDefEqProofs [h, w1]
        exact ⟨(by (first | exact Weak.tm (by simp [lk]) | exact Weak.sub (by simp [lk, keptA, AV.keys]) (by simp [lk, keptO, keptA, AV.keys]))), h0⟩
      · simp -implicitDefEqProofs [h]
        refine GO_ret mixed 1000 ?_
        simp -implicitDefEqProofs [h, h0]
  · rintro ⟨h0, h1⟩
    refine GO_AR mixed 1000 ?_
    have e0 := h0 (by omega)
    have e1 := h1 (by omega)
    simp -implicitDefEqProofs []
    refine GO_ret mixed 1000 ?_
    simp -implicitDefEqProofs [e0, e1]

theorem merge1_pc (x y : Iss) (hx : okN x) (hy : okN y) : PC Tryd.prog G 92 [.agg (isa x), .agg (isa y)] (.int .i64 (cmpN x y)) := by
  (refine pc_sheet_Merge_1 (Nat.le_of_ble_eq_true rfl) fun R hG hrd => GO_AR mixed 1000 ?_; subst hG)
  obtain ⟨x1, x2, x3, x4⟩ := hx
  obtain ⟨y1, y2, y3, y4⟩ := hy
  have w1 : IntKind.i64.wrap (x.d - y.d) = x.d - y.d := wrapI (by omega) (by omega)
  have w2 : IntKind.i64.wrap (x.l - y.l) = x.l - y.l := wrapI (by omega) (by omega)
  simp -implicitDefEqProofs [rc_sheet_Merge_1, rr_sheet_Merge_1, isa, w1, w2]
  (first | refine CallK.of (or_pc (x.d - y.d) (x.l - y.l)) (by simp) ?_ | refine CallD.of (or_pc (x.d - y.d) (x.l - y.l)) (by simp) ?_)
  simp -implicitDefEqProofs [cmpN]

theorem merge2_pc (x y : Iss) : PC Tryd.prog G 95 [.agg (isa x), .agg (isa y)] (.bool (decide (x.d = y.d ∧ x.l = y.l))) := by
  (refine pc_sheet_Merge_2 (Nat.le_of_ble_eq_true rfl) fun R hG hrd => GO_AR mixed 1000 ?_; subst hG)
  have e1 : isa x = [.int .i64 x.d, .int .i64 x.l, .int .u8 x.k, .vsl (x.its.map ita), .vsl (x.dms.map dma)] := rfl
  have e2 : isa y = [.int .i64 y.d, .int .i64 y.l, .int .u8 y.k, .vsl (y.its.map ita), .vsl (y.dms.map dma)] := rfl
  simp -implicitDefEqProofs [rc_sheet_Merge_2, rr_sheet_Merge_2, e1, e2]
  (first | refine CallK.of (name_pc x) (by simp) ?_ | refine CallD.of (name_pc x) (by simp) ?_)
  simp -implicitDefEqProofs []
  (first | refine CallK.of (name_pc y) (by simp) ?_ | refine CallD.of (name_pc y) (by simp) ?_)
  simp -implicitDefEqProofs []
  trace_state
  rfl

def ccA (a b : List Iss) : AV := .vsl [[.vsl (a.map isa)], [.vsl (b.map isa)]]
def ccR (a b : List Iss) (i : Nat) : List (List AV) := if i = 0 then [] else if i = 1 then a.map isa else (a ++ b).map isa
theorem isa_flat (l : List Iss) : (l.map isa).all (fun r => r.length == 5) = true := by simp [isa]
theorem isa_one (l : List Iss) : (l.map isa).all (fun r => r.all AV.one) = true := by simp [isa, AV.one]
theorem isa_pure (l : List Iss) : (l.map isa).all (fun r => r.all AV.pure) = true := by simp [isa, AV.pure]
theorem isa_kept (l : List Iss) (o : List (Nat × AObj)) : keptO o (.row 5 (l.map isa)) = true := by
  simp only [keptO, List.all_eq_true, List.mem_map]
  rintro x ⟨y, -, rfl⟩ v hv
  simp only [isa, List.mem_cons, List.not_mem_nil, or_false] at hv
  rcases hv with rfl | rfl | rfl | rfl | rfl <;> simp [keptA, AV.keys]
theorem concat_pc (a b : List Iss) (h0 : a ≠ []) (hb0 : b ≠ []) (ha : a.length ≤ 400) (hb : b.length ≤ 400) : PC Tryd.prog G 90 [ccA a b] (.vsl ((a ++ b).map isa)) := by
  (refine pc_slices_Concat_api_Issue_api_Issue (Nat.le_of_ble_eq_true rfl) fun R hG hrd => GO_AR mixed 1000 ?_; subst hG)
  simp -implicitDefEqProofs [rc_slices_Concat_api_Issue_api_Issue, rr_slices_Concat_api_Issue_api_Issue, ccA]
  refine AR_for (fun i => ⟨[(11, .int .i64 i), (10, .int .i64 2), (9, ccA a b), (0, ccA a b), (3, .int .i64 (if i = 0 then 0 else if i = 1 then a.length else a.length + b.length : Nat))], []⟩) (fun i => True) 2 (by simp only [ccA]; (first | exact Weak.tm (by simp [lk]) | exact Weak.sub (by simp [lk, keptA, AV.keys]) (by simp [lk, keptO, keptA, AV.keys]))) trivial ?_ ?_
  · intro i hi _
    refine GO_AR mixed 1000 ?_
    match i, hi with
    | 0, _ =>
      have w1 : IntKind.i64.wrap 1 = 1 := rfl
      have w2 : IntKind.i64.wrap (a.length : Int) = a.length := wrapI (by omega) (by omega)
      have k2 : ¬ (a.length : Int) < 0 := by omega
      simp -implicitDefEqProofs [ccA, w1, w2, k2]
      (first | exact Weak.tm (by simp [lk]) | exact Weak.sub (by simp [lk, keptA, AV.keys]) (by simp [lk, keptO, keptA, AV.keys]))
    | 1, _ =>
      have w1 : IntKind.i64.wrap 2 = 2 := rfl
      have w2 : IntKind.i64.wrap ((a.length : Int) + b.length) = ((a.length + b.length : Nat) : Int) := wrapI (by omega) (by omega)
      have k2 : ¬ ((a.length : Int) + b.length) < 0 := by omega
      simp -implicitDefEqProofs [ccA, w1, w2, k2]
      (first | exact Weak.tm (by simp [lk]) | exact Weak.sub (by simp [lk, keptA, AV.keys]) (by simp [lk, keptO, keptA, AV.keys]))
  · intro _
    refine GO_AR mixed 1000 ?_
    have hp : 0 < a.length := List.length_pos_iff.2 h0
    simp -implicitDefEqProofs [ccA]
    refine GO_ret mixed 1000 ?_
    have gp := grow_pn (G := R.G) (a.length + b.length) (by omega) (by omega)
    rw [Int.natCast_add] at gp
    simp -implicitDefEqProofs []
    refine CallNK.new gp (by simp [AV.pure]) (by rfl) ?_
    simp -implicitDefEqProofs []
    refine AR_for (fun i => ⟨[(27, .int .i64 i), (26, .int .i64 2), (25, ccA a b), (6, .osl 24 (ccR a b i).length)], [(24, .row 5 (ccR a b i))]⟩) (fun i => True) 2 (by simp only [ccA, ccR]; (first | exact Weak.tm (by simp [lk]) | exact Weak.sub (by simp [lk, keptA, AV.keys]) (by simp [lk, keptO, keptA, AV.keys]))) trivial ?_ ?_
    · intro i hi _
      refine GO_AR mixed 1000 ?_
      have f1 := isa_flat a
      have f2 := isa_flat b
      have o1 := isa_one a
      have o2 := isa_one b
      have p1 := isa_pure a
      have p2 := isa_pure b
      match i, hi with
      | 0, _ =>
        have w1 : IntKind.i64.wrap 1 = 1 := rfl
        have b1 : a.length * 72 ≤ 70368744177664 := by omega
        simp -implicitDefEqProofs [ccA, ccR, w1, b1, f1, o1, p1, h0]
        refine Weak.sub (by simp [lk, keptA, AV.keys]) ?_
        simp only [List.mem_cons, List.not_mem_nil, or_false, forall_eq_or_imp, forall_eq, isa_kept, and_true]
        simp [lk]
      | 1, _ =>
        have w1 : IntKind.i64.wrap 2 = 2 := rfl
        have b1 : (a.length + b.length) * 72 ≤ 70368744177664 := by omega
        simp -implicitDefEqProofs [ccA, ccR, w1, b1, f2, o2, p2, hb0]
        have ik := isa_kept (a ++ b)
        simp only [List.map_append] at ik
        refine Weak.sub (by simp [lk, keptA, AV.keys]) ?_
        simp only [List.mem_cons, List.not_mem_nil, or_false, forall_eq_or_imp, forall_eq, ik, and_true]
        simp [lk]
    · intro _
      refine GO_AR mixed 1000 ?_
      simp -implicitDefEqProofs [ccA, ccR]
      refine GO_ret mixed 1000 ?_
      have p1 := isa_pure a
      have p2 := isa_pure b
      simp -implicitDefEqProofs [p1, p2]
end
end Go.Proofs.YtdpmioiamcgfkaaDoor

/-! Issues in the order of their names: plain. -/
namespace Go.Proofs.YtdpmioiamcgfkaaDoor
open Go.RowKit

def kyN (x : Iss) : Int := x.d * 16 + x.l
theorem cmpN_lt {x y : Iss} (hx : okN x) (hy : okN y) : cmpN x y < 0 ↔ kyN x < kyN y := by
  obtain ⟨x1, x2, x3, x4⟩ := hx
  obtain ⟨y1, y2, y3, y4⟩ := hy
  unfold cmpN kyN
  split <;> omega
theorem kyN_eq {x y : Iss} (hx : okN x) (hy : okN y) : kyN x = kyN y ↔ (x.d = y.d ∧ x.l = y.l) := by
  obtain ⟨x1, x2, x3, x4⟩ := hx
  obtain ⟨y1, y2, y3, y4⟩ := hy
  unfold kyN
  omega

def leN (x y : Iss) : Bool := decide (kyN x ≤ kyN y)
def sortN (l : List Iss) : List Iss := l.mergeSort leN
/-- Lists in order. -/
def SrtN (l : List Iss) : Prop := l.Pairwise fun x y => kyN x ≤ kyN y
/-- Names tell issues. -/
def InjN (l : List Iss) : Prop := ∀ x ∈ l, ∀ y ∈ l, kyN x = kyN y → x = y

theorem sortN_perm (l : List Iss) : (sortN l).Perm l := List.mergeSort_perm l _
theorem sortN_srt (l : List Iss) : SrtN (sortN l) := by
  have := List.pairwise_mergeSort (le := leN) (fun a b c => by simp [leN]; omega) (fun a b => by simp [leN]; omega) l
  exact this.imp (by simp [leN])
theorem InjN.perm {a b : List Iss} (h : InjN a) (p : a.Perm b) : InjN b := fun x hx y hy => h x (p.mem_iff.2 hx) y (p.mem_iff.2 hy)
theorem InjN.sub {a b : List Iss} (h : InjN a) (s : ∀ x ∈ b, x ∈ a) : InjN b := fun x hx y hy => h x (s x hx) y (s y hy)
theorem sort_uniq {a b : List Iss} (hi : InjN a) (p : a.Perm b) (ha : SrtN a) (hb : SrtN b) : a = b :=
  List.Perm.eq_of_pairwise (le := fun x y => kyN x ≤ kyN y) (fun x y hx hy h1 h2 => hi x hx y (p.mem_iff.2 hy) (by omega)) ha hb p
theorem sortN_eq {l s : List Iss} (hi : InjN l) (p : s.Perm l) (hs : SrtN s) : sortN l = s :=
  sort_uniq (hi.perm (sortN_perm l).symm) ((sortN_perm l).trans p.symm) (sortN_srt l) hs
theorem sortN_len (l : List Iss) : (sortN l).length = l.length := (sortN_perm l).length_eq
theorem sortN_mem {l : List Iss} {x : Iss} : x ∈ sortN l ↔ x ∈ l := (sortN_perm l).mem_iff

/-- A part of a list in order. -/
def srtS (l : List Iss) (a b : Nat) : List Iss := l.take a ++ (sortN ((l.take b).drop a) ++ l.drop b)
theorem srtS_one {l : List Iss} {a b : Nat} (h1 : a ≤ b) (h2 : b ≤ a + 1) : srtS l a b = l := by
  have e : sortN ((l.take b).drop a) = (l.take b).drop a := by
    generalize hq : (l.take b).drop a = q
    have hl : q.length ≤ 1 := by rw [← hq]; simp; omega
    match q, hl with
    | [], _ => simp [sortN]
    | [x], _ => simp [sortN]
  have e2 : l.take a = (l.take b).take a := by rw [List.take_take, Nat.min_eq_left h1]
  rw [srtS, e, ← List.append_assoc, e2, List.take_append_drop, List.take_append_drop]

/-- While an issue is moved: it is ahead of those from p on. -/
def mvS (l : List Iss) (a i p : Nat) : List Iss :=
  l.take a ++ ((sortN ((l.take i).drop a)).take p ++ (l.getD i default :: ((sortN ((l.take i).drop a)).drop p ++ l.drop (i + 1))))
theorem seg_len {l : List Iss} {a i : Nat} (h : i ≤ l.length) : (sortN ((l.take i).drop a)).length = i - a := by rw [sortN_len]; simp; omega
theorem mvS_zero {l : List Iss} {a i : Nat} (h1 : a ≤ i) (h2 : i < l.length) : srtS l a i = mvS l a i (i - a) := by
  have e := seg_len (l := l) (a := a) (i := i) (by omega)
  rw [mvS, srtS, List.drop_eq_getElem_cons h2]
  generalize sortN ((l.take i).drop a) = s at *
  rw [List.take_of_length_le (by omega : s.length ≤ i - a), List.drop_of_length_le (by omega : s.length ≤ i - a)]
  simp [List.getD_eq_getElem?_getD, h2]
theorem mvS_len {l : List Iss} {a i p : Nat} (h1 : a ≤ i) (h2 : i < l.length) (h3 : p ≤ i - a) : (mvS l a i p).length = l.length := by
  have e := seg_len (l := l) (a := a) (i := i) (by omega)
  simp [mvS, e]; omega
theorem swap_at {α : Type} (D C : List α) (y x : α) (n : Nat) (h : n = D.length) : ((D ++ y :: x :: C).set (n + 1) y).set n x = D ++ x :: y :: C := by
  subst h
  rw [List.set_append_right _ _ (by omega), List.set_append_right _ _ (by omega)]
  simp
/-- The two that are compared, and what changing their places gives. -/
theorem mvS_at {l : List Iss} {a i p : Nat} (h1 : a ≤ i) (h2 : i < l.length) (h3 : p + 1 ≤ i - a) :
    ∃ y, (sortN ((l.take i).drop a))[p]? = some y ∧ (mvS l a i (p + 1))[a + p + 1]? = some l[i] ∧ (mvS l a i (p + 1))[a + p]? = some y ∧ ((mvS l a i (p + 1)).set (a + p + 1) y).set (a + p) l[i] = mvS l a i p ∧ y ∈ l := by
  have e := seg_len (l := l) (a := a) (i := i) (by omega)
  have hm : ∀ y ∈ sortN ((l.take i).drop a), y ∈ l := fun y hy => List.mem_of_mem_take (List.mem_of_mem_drop (sortN_mem.1 hy))
  unfold mvS
  generalize sortN ((l.take i).drop a) = s at *
  have hp : p < s.length := by omega
  have ta : (l.take a).length = a := by simp; omega
  have e1 : s.take (p + 1) = s.take p ++ [s[p]] := List.take_succ_eq_append_getElem hp
  have e2 : s.drop p = s[p] :: s.drop (p + 1) := List.drop_eq_getElem_cons hp
  have e3 : l.getD i default = l[i] := by simp [List.getD_eq_getElem?_getD, h2]
  have tp : (s.take p).length = p := by simp; omega
  refine ⟨s[p], by simp [hp], ?_, ?_, ?_, hm _ (List.getElem_mem hp)⟩
  · rw [e1, e3, List.getElem?_append_right (by omega), ta, List.getElem?_append_right (by simp; omega)]
    have : a + p + 1 - a - (s.take p ++ [s[p]]).length = 0 := by simp; omega
    rw [this]; rfl
  · rw [e1, List.getElem?_append_right (by omega), ta, List.append_assoc, List.getElem?_append_right (by omega), tp]
    have : a + p - a - p = 0 := by omega
    rw [this]; rfl
  · rw [e1, e2, e3, List.append_assoc]
    have q := swap_at (l.take a ++ s.take p) (s.drop (p + 1) ++ l.drop (i + 1)) s[p] l[i] (a + p) (by simp; omega)
    simp only [List.append_assoc, List.cons_append, List.nil_append] at q ⊢
    exact q

/-- At its place. -/
theorem mvS_end {l : List Iss} {a i p : Nat} (hi : InjN l) (h1 : a ≤ i) (h2 : i < l.length) (h3 : p ≤ i - a)
    (hd : ∀ y ∈ (sortN ((l.take i).drop a)).drop p, kyN l[i] < kyN y) (hc : ∀ q, p = q + 1 → ∀ y, (sortN ((l.take i).drop a))[q]? = some y → ¬ kyN l[i] < kyN y) : mvS l a i p = srtS l a (i + 1) := by
  have e := seg_len (l := l) (a := a) (i := i) (by omega)
  have e3 : l.getD i default = l[i] := by simp [List.getD_eq_getElem?_getD, h2]
  have e4 : (l.take (i + 1)).drop a = (l.take i).drop a ++ [l[i]] := by
    rw [List.take_succ_eq_append_getElem h2, List.drop_append_of_le_length (by simp; omega)]
  have hs := sortN_srt ((l.take i).drop a)
  have hp := sortN_perm ((l.take i).drop a)
  have hm : ∀ x ∈ (l.take (i + 1)).drop a, x ∈ l := fun y hy => List.mem_of_mem_take (List.mem_of_mem_drop hy)
  rw [srtS, mvS, e3]
  rw [sortN_eq (s := (sortN ((l.take i).drop a)).take p ++ l[i] :: (sortN ((l.take i).drop a)).drop p) (hi.sub hm)]
  · simp [List.append_assoc]
  · rw [e4]
    refine List.perm_middle.trans ?_
    rw [List.take_append_drop]
    exact (List.perm_cons _).2 hp |>.trans (List.perm_append_singleton _ _).symm
  · generalize sortN ((l.take i).drop a) = s at *
    have hs2 := hs
    unfold SrtN at hs ⊢
    rw [← List.take_append_drop p s, List.pairwise_append] at hs
    obtain ⟨t1, t2, t3⟩ := hs
    rw [List.pairwise_append]
    refine ⟨t1, List.pairwise_cons.2 ⟨fun y hy => by have := hd y hy; omega, t2⟩, fun u hu v hv => ?_⟩
    rcases List.mem_cons.1 hv with rfl | hv
    · match p, hc, h3 with
      | 0, _, _ => simp at hu
      | q + 1, hc, h3 =>
        have hq : q < s.length := by omega
        have hc2 := hc q rfl s[q] (by simp [hq])
        obtain ⟨j, hj, rfl⟩ := List.getElem_of_mem hu
        rw [List.getElem_take]
        have hjq : j ≤ q := by simp at hj; omega
        rcases Nat.lt_or_ge j q with hl | hg
        · have := List.pairwise_iff_getElem.1 hs2 j q (by omega) hq hl
          omega
        · have : j = q := by omega
          subst this
          omega
    · exact t3 u hu v hv
end Go.Proofs.YtdpmioiamcgfkaaDoor

/-! The insertion sort, by the abstract machine. -/
namespace Go.Proofs.YtdpmioiamcgfkaaDoor
open Go.RowKit

theorem frz_isa (ok : Nat → Bool) (st : St) (l : List Iss) : frzO ok st (.row 5 (l.map isa)) = .row 5 (l.map isa) := by
  simp only [frzO, List.map_map]
  congr 2
  funext p; simp [isa, frzA, frz, AV.keys]
section
variable {G : Nat → Option (List AV)}

def fM1 : AV := .func (.func 92) [] []
theorem insert_pb (l : List Iss) (a b : Nat) (hv : ∀ x ∈ l, okN x) (hin : InjN l) (h1 : a ≤ b) (h2 : b ≤ l.length) (h3 : l.length ≤ 1000) :
    PB Tryd.prog G 130 [(1000, .row 5 (l.map isa))] [.osl 1000 l.length, .int .i64 a, .int .i64 b, fM1] (.tup []) [(1000, .row 5 ((srtS l a b).map isa))] := by
  (refine pb_slices_insertionSortCmpFunc_api_Issue (Nat.le_of_ble_eq_true rfl) fun R hG hrd => GO_AR mixed 1000 ?_; subst hG)
  have w1 : IntKind.i64.wrap ((a : Int) + 1) = a + 1 := wrapI (by omega) (by omega)
  simp -implicitDefEqProofs [rc_slices_insertionSortCmpFunc_api_Issue, rr_slices_insertionSortCmpFunc_api_Issue, fM1, w1]
  refine AR_for (fun i => ⟨[(8, .int .i64 ((a : Int) + 1 + i)), (0, .osl 1000 l.length), (1, .int .i64 a), (2, .int .i64 b), (3, fM1)], [(1000, .row 5 ((srtS l a (a + 1 + i)).map isa))]⟩) (fun i => True) (b - (a + 1)) ?_ trivial ?_ ?_
  · rw [srtS_one (by omega) (by omega)]
    refine Weak.sub (by simp [lk, keptA, AV.keys, fM1]) ?_
    simp only [List.mem_cons, List.not_mem_nil, or_false, forall_eq_or_imp, forall_eq, isa_kept, and_true]
    simp [lk]
  · intro i hi _
    refine GO_AR mixed 1000 ?_
    have k1 : (a : Int) + 1 + i < b := by omega
    simp -implicitDefEqProofs [fM1, k1]
    have hI : a + 1 + i < l.length := by omega
    have z := mvS_zero (l := l) (a := a) (i := a + 1 + i) (by omega) hI
    have z0 : a + 1 + i - a = i + 1 := by omega
    rw [z0] at z
    rw [z]
    have hx := hv _ (List.getElem_mem hI)
    have ex : isa l[a + 1 + i] = [.int .i64 l[a + 1 + i].d, .int .i64 l[a + 1 + i].l, .int .u8 l[a + 1 + i].k, .vsl (l[a + 1 + i].its.map ita), .vsl (l[a + 1 + i].dms.map dma)] := rfl
    have hat := fun p (hp : p + 1 ≤ a + 1 + i - a) => mvS_at (l := l) (a := a) (i := a + 1 + i) (p := p) (by omega) hI hp
    have hend := fun p => mvS_end (l := l) (a := a) (i := a + 1 + i) (p := p) hin (by omega) hI
    have hln := fun p (hp : p ≤ a + 1 + i - a) => mvS_len (l := l) (a := a) (i := a + 1 + i) (p := p) (by omega) hI hp
    have hsl := seg_len (l := l) (a := a) (i := a + 1 + i) (by omega)
    generalize hsg : sortN ((l.take (a + 1 + i)).drop a) = s at *
    generalize hxx : l[a + 1 + i] = x at *
    refine AR_loop (fun p : Nat => ⟨[(9, .int .i64 ((a : Int) + p)), (8, .int .i64 ((a : Int) + 1 + i)), (0, .osl 1000 l.length), (1, .int .i64 a), (2, .int .i64 b), (3, .func (.func 92) [] [])], [(1000, .row 5 ((mvS l a (a + 1 + i) p).map isa))]⟩)
      (fun p => p ≤ i + 1 ∧ ∀ y ∈ s.drop p, kyN x < kyN y) (fun p => p) (i + 1) ?_ ⟨Nat.le_refl _, fun y hy => by rw [List.drop_of_length_le (by omega)] at hy; cases hy⟩ ?_
    · have e9 : (a : Int) + 1 + i = (a : Int) + (i + 1 : Nat) := by omega
      rw [e9]
      refine Weak.sub (by simp [lk, keptA, AV.keys]) ?_
      simp only [List.mem_cons, List.not_mem_nil, or_false, forall_eq_or_imp, forall_eq, isa_kept, and_true]
      simp [lk]
    · rintro p ⟨hp, hd⟩
      refine GO_AR mixed 1000 ?_
      cases p with
      | zero =>
        have k2 : ¬ (a : Int) < a := by omega
        simp -implicitDefEqProofs []
        refine ⟨rfl, ?_⟩
        refine GO_ret mixed 1000 ?_
        have w3 : IntKind.i64.wrap ((a : Int) + 1 + i + 1) = (a : Int) + 1 + (i + 1) := by rw [wrapI (by omega) (by omega)]; omega
        have he := hend 0 (Nat.zero_le _) hd (fun q hq => by omega)
        have he2 : a + 1 + i + 1 = a + 1 + (i + 1) := by omega
        rw [he2] at he
        simp -implicitDefEqProofs [w3]
        refine Weak.sub (by simp [lk, keptA, AV.keys]) ?_
        simp only [List.mem_cons, List.not_mem_nil, or_false, forall_eq_or_imp, forall_eq, isa_kept, and_true]
        simp [lk, he]
      | succ p =>
        obtain ⟨y, hy0, hy1, hy2, hy3, hy4⟩ := hat p (by omega)
        have ey : isa y = [.int .i64 y.d, .int .i64 y.l, .int .u8 y.k, .vsl (y.its.map ita), .vsl (y.dms.map dma)] := rfl
        have hl2 := hln (p + 1) (by omega)
        have k2 : (a : Int) < (a : Int) + (p + 1) := by omega
        have k3 : ((a : Int) + (p + 1)).toNat = a + p + 1 := by omega
        have w2 : IntKind.i64.wrap ((a : Int) + (p + 1) - 1) = (a : Int) + p := by rw [wrapI (by omega) (by omega)]; omega
        have k4 : ((a : Int) + p).toNat = a + p := by omega
        have k5 : a + p + 1 < l.length := by omega
        have k6 : a + p < l.length := by omega
        have k7 : (0 : Int) ≤ (a : Int) + (p + 1) := by omega
        have k8 : (0 : Int) ≤ (a : Int) + p := by omega
        have he := hend (p + 1) (by omega) hd
        generalize mvS l a (a + 1 + i) (p + 1) = Q at *
        obtain ⟨q1, g1⟩ := List.getElem?_eq_some_iff.1 hy1
        obtain ⟨q2, g2⟩ := List.getElem?_eq_some_iff.1 hy2
        have hcl := cmpN_lt hx (hv y hy4)
        simp -implicitDefEqProofs [k2, k3, w2, k4, k5, k6, k7, k8, g1, g2, hl2, ex, ey]
        refine CallD.of (merge1_pc x y hx (hv y hy4)) (by simp [AV.pure]) ?_
        by_cases hlt : cmpN x y < 0
        · simp -implicitDefEqProofs [hlt, k3, w2, k4, k5, k6, k7, k8, g1, g2, hl2, ex, ey]
          refine ⟨rfl, rfl, p, ?_, ⟨by omega, fun u hu => ?_⟩, Nat.lt_succ_self _⟩
          · rw [← ex, ← ey, ← List.map_set, ← List.map_set, hy3]
            refine Weak.sub (by simp [lk, keptA, AV.keys]) ?_
            simp only [List.mem_cons, List.not_mem_nil, or_false, forall_eq_or_imp, forall_eq, isa_kept, and_true]
            simp [lk]
          · obtain ⟨hps, gs⟩ := List.getElem?_eq_some_iff.1 hy0
            rw [List.drop_eq_getElem_cons hps, gs] at hu
            rcases List.mem_cons.1 hu with rfl | hu
            · exact hcl.1 hlt
            · exact hd u hu
        · simp -implicitDefEqProofs [hlt]
          refine ⟨rfl, ?_⟩
          refine GO_ret mixed 1000 ?_
          have w3 : IntKind.i64.wrap ((a : Int) + 1 + i + 1) = (a : Int) + 1 + (i + 1) := by rw [wrapI (by omega) (by omega)]; omega
          have he := he (fun q hq u hu hk => by
            have : q = p := by omega
            subst this
            rw [hy0] at hu
            cases hu
            exact hlt (hcl.2 hk))
          have he2 : a + 1 + i + 1 = a + 1 + (i + 1) := by omega
          rw [he2] at he
          simp -implicitDefEqProofs [w3]
          refine Weak.sub (by simp [lk, keptA, AV.keys]) ?_
          simp only [List.mem_cons, List.not_mem_nil, or_false, forall_eq_or_imp, forall_eq, isa_kept, and_true]
          simp [lk, he]
  · intro _
    refine GO_AR mixed 1000 ?_
    have k1 : ¬ (a : Int) + 1 + (b - (a + 1) : Nat) < b := by omega
    simp -implicitDefEqProofs [fM1, k1]
    refine GO_ret mixed 1000 ?_
    have e : srtS l a (a + 1 + (b - (a + 1))) = srtS l a b := by
      rcases Nat.lt_or_ge a b with h | h
      · congr 1; omega
      · rw [srtS_one (by omega) (by omega), srtS_one (by omega) (by omega)]
    rw [e]
    refine ⟨[], rfl, rfl, ?_⟩
    simp [frzSt, newK, frz_isa]
end
end Go.Proofs.YtdpmioiamcgfkaaDoor

/-! The stable sort of few issues, by the abstract machine. -/
namespace Go.Proofs.YtdpmioiamcgfkaaDoor
open Go.RowKit
section
variable {G : Nat → Option (List AV)}

theorem srtS_all (l : List Iss) : srtS l 0 l.length = sortN l := by simp [srtS]
theorem isa_ren (ρ : Nat → Nat) (l : List Iss) : AObj.ren ρ (.row 5 (l.map isa)) = .row 5 (l.map isa) := by
  simp only [AObj.ren, List.map_map]
  congr 2
  funext p; simp [isa, AV.ren]
theorem stable_few_pb (l : List Iss) (hv : ∀ x ∈ l, okN x) (hin : InjN l) (h3 : l.length < 20) :
    PB Tryd.prog G 116 [(1000, .row 5 (l.map isa))] [.osl 1000 l.length, .int .i64 l.length, fM1] (.tup []) [(1000, .row 5 ((sortN l).map isa))] := by
  (refine pb_slices_stableCmpFunc_api_Issue (Nat.le_of_ble_eq_true rfl) fun R hG hrd => GO_AR mixed 1000 ?_; subst hG)
  have k1 : ¬ (20 : Int) ≤ l.length := by omega
  have k2 : ¬ (20 : Int) < l.length := by omega
  have hp := insert_pb (G := R.G) l 0 l.length hv hin (Nat.zero_le _) (Nat.le_refl _) (by omega)
  rw [srtS_all] at hp
  simp -implicitDefEqProofs [rc_slices_stableCmpFunc_api_Issue, rr_slices_stableCmpFunc_api_Issue, fM1]
  refine AR_for (fun i => ⟨[(8, .int .i64 20), (7, .int .i64 0), (6, .int .i64 20), (0, .osl 1000 l.length), (1, .int .i64 l.length), (2, fM1)], [(1000, .row 5 (l.map isa))]⟩) (fun _ => True) 0 ?_ trivial (fun i hi => by omega) fun _ => ?_
  · refine Weak.sub (by simp [lk, keptA, AV.keys, fM1]) ?_
    simp only [List.mem_cons, List.not_mem_nil, or_false, forall_eq_or_imp, forall_eq, isa_kept, and_true]
    simp [lk]
  refine GO_AR mixed 1000 ?_
  simp -implicitDefEqProofs [fM1, k1]
  refine GO_ret mixed 1000 ?_
  simp -implicitDefEqProofs []
  refine CallK.sem (CallSem.byref hp id (by simp) (by simp) (by simp [St.get, lk, isa_ren]) (by simp [isa_kept]) (by simp [keptA, AV.keys, lk, fM1]) rfl (by simp [AV.ren, fM1]) rfl rfl) ?_
  simp -implicitDefEqProofs [setsB, isa_ren]
  refine AR_for (fun i => ⟨[(6, .int .i64 20), (1, .int .i64 l.length)], [(1000, .row 5 ((sortN l).map isa))]⟩) (fun _ => True) 0 ?_ trivial (fun i hi => by omega) fun _ => ?_
  · refine Weak.sub (by simp [lk, keptA, AV.keys, fM1]) ?_
    simp only [List.mem_cons, List.not_mem_nil, or_false, forall_eq_or_imp, forall_eq, isa_kept, and_true]
    simp [lk]
  refine GO_AR mixed 1000 ?_
  simp -implicitDefEqProofs [k2]
  refine GO_ret mixed 1000 ?_
  refine ⟨[], rfl, rfl, ?_⟩
  simp [frzSt, newK, frz_isa]

theorem sort_few_pb (l : List Iss) (hv : ∀ x ∈ l, okN x) (hin : InjN l) (h3 : l.length < 20) :
    PB Tryd.prog G 91 [(1000, .row 5 (l.map isa))] [.osl 1000 l.length, fM1] (.tup []) [(1000, .row 5 ((sortN l).map isa))] := by
  (refine pb_slices_SortStableFunc_api_Issue_api_Issue (Nat.le_of_ble_eq_true rfl) fun R hG hrd => GO_AR mixed 1000 ?_; subst hG)
  simp -implicitDefEqProofs [rc_slices_SortStableFunc_api_Issue_api_Issue, rr_slices_SortStableFunc_api_Issue_api_Issue, fM1]
  refine CallK.sem (CallSem.byref (stable_few_pb l hv hin h3) id (by simp) (by simp) (by simp [St.get, lk, isa_ren]) (by simp [isa_kept]) (by simp [keptA, AV.keys, lk, fM1]) rfl (by simp [AV.ren, fM1]) rfl rfl) ?_
  simp -implicitDefEqProofs [setsB, isa_ren]
  refine ⟨[], rfl, rfl, ?_⟩
  simp [frzSt, newK, frz_isa]
end
end Go.Proofs.YtdpmioiamcgfkaaDoor

/-! Equal names that stand side by side are put together, by the abstract machine. -/
namespace Go.Proofs.YtdpmioiamcgfkaaDoor
open Go.RowKit

def smN (x y : Iss) : Bool := decide (x.d = y.d ∧ x.l = y.l)
/-- Of the first p issues those whose name is not that of the one ahead. -/
def kN (l : List Iss) : Nat → List Iss
  | 0 => []
  | p + 1 => if p ≠ 0 ∧ smN (l.getD p default) (l.getD (p - 1) default) = true then kN l p else kN l p ++ [l.getD p default]
theorem kN_len (l : List Iss) : ∀ p, (kN l p).length ≤ p
  | 0 => Nat.le_refl _
  | p + 1 => by
    have := kN_len l p
    rw [kN]; split <;> simp <;> omega
/-- None stands twice among the first p. -/
def noD (l : List Iss) (p : Nat) : Prop := ∀ j, 0 < j → j < p → smN (l.getD j default) (l.getD (j - 1) default) = false
theorem kN_noD {l : List Iss} : ∀ {p : Nat}, noD l p → p ≤ l.length → kN l p = l.take p
  | 0, _, _ => rfl
  | p + 1, h, hp => by
    rw [kN, kN_noD (p := p) (fun j h1 h2 => h j h1 (by omega)) (by omega), List.take_succ_eq_append_getElem (by omega)]
    have e : l.getD p default = l[p] := by simp [List.getD_eq_getElem?_getD, show p < l.length by omega]
    split
    · rename_i h2
      rw [h p (by omega) (by omega)] at h2
      exact absurd h2.2 (by simp)
    · rw [e]
/-- The list while it is put together. -/
def cpS (l : List Iss) (p : Nat) : List Iss := kN l p ++ l.drop (kN l p).length
theorem cpS_len {l : List Iss} {p : Nat} (h : p ≤ l.length) : (cpS l p).length = l.length := by
  have := kN_len l p
  simp [cpS]; omega
theorem cpS_at {l : List Iss} {p j : Nat} (hp : p < l.length) (h1 : (kN l p).length ≤ j) (h2 : j ≤ p) : (cpS l p)[j]? = some (l.getD j default) := by
  rw [cpS, List.getElem?_append_right h1, List.getElem?_drop]
  have : (kN l p).length + (j - (kN l p).length) = j := by omega
  rw [this]
  simp [List.getD_eq_getElem?_getD, show j < l.length by omega]
theorem cpS_keep {l : List Iss} {p : Nat} (hp : p < l.length) (h : ¬ (p ≠ 0 ∧ smN (l.getD p default) (l.getD (p - 1) default) = true)) : (cpS l p).set (kN l p).length (l.getD p default) = cpS l (p + 1) := by
  have hl := kN_len l p
  have e : kN l (p + 1) = kN l p ++ [l.getD p default] := by rw [kN, if_neg h]
  rw [cpS, cpS, e, List.set_append_right _ _ (by omega), Nat.sub_self, List.drop_eq_getElem_cons (by omega : (kN l p).length < l.length)]
  simp only [List.set_cons_zero, List.length_append, List.length_singleton, List.append_assoc, List.singleton_append]
theorem cpS_skip {l : List Iss} {p : Nat} (h : p ≠ 0 ∧ smN (l.getD p default) (l.getD (p - 1) default) = true) : cpS l (p + 1) = cpS l p ∧ kN l (p + 1) = kN l p := by
  have e : kN l (p + 1) = kN l p := by rw [kN, if_pos h]
  exact ⟨by rw [cpS, cpS, e], e⟩

def cmpct (l : List Iss) : List Iss := kN l l.length
def zrI : List AV := [.int .i64 0, .int .i64 0, .int .u8 0, .nils, .nils]
def cmpO (l : List Iss) : List (List AV) := (cmpct l).map isa ++ List.replicate (l.length - (cmpct l).length) zrI
def cmpV (k : Nat) (l : List Iss) : AV := if (cmpct l).length = l.length then .osl k l.length else .oss k l.length 0 (cmpct l).length
def fM2 : AV := .func (.func 95) [] []
theorem kN_lt {l : List Iss} {k : Nat} (hk0 : k ≠ 0) (hd : smN (l.getD k default) (l.getD (k - 1) default) = true) : ∀ p, k < p → (kN l p).length < p := by
  intro p hp
  induction p with
  | zero => omega
  | succ p ih =>
    by_cases h : p = k
    · subst h
      have := kN_len l p
      rw [kN, if_pos ⟨hk0, hd⟩]; omega
    · have := ih (by omega)
      rw [kN]; split <;> simp <;> omega
theorem getD_lt {l : List Iss} {p : Nat} (h : p < l.length) : l.getD p default = l[p] := by simp [List.getD_eq_getElem?_getD, h]
theorem cmp_noD {l : List Iss} (h : noD l l.length) : cmpct l = l := by rw [cmpct, kN_noD h (Nat.le_refl _), List.take_length]
theorem frz_cmpO (ok : Nat → Bool) (st : St) (l : List Iss) : frzO ok st (.row 5 (cmpO l)) = .row 5 (cmpO l) := by
  have h := frz_isa ok st (cmpct l)
  simp only [frzO, AObj.row.injEq, true_and] at h ⊢
  rw [cmpO, List.map_append, h]
  simp [zrI, frzA, frz, AV.keys]
section
variable {G : Nat → Option (List AV)}

theorem compact_pb (l : List Iss) (h3 : l.length ≤ 1000) :
    PB Tryd.prog G 94 [(1000, .row 5 (l.map isa))] [.osl 1000 l.length, fM2] (cmpV 1000 l) [(1000, .row 5 (cmpO l))] := by
  (refine pb_slices_CompactFunc_api_Issue_api_Issue (Nat.le_of_ble_eq_true rfl) fun R hG hrd => GO_AR mixed 1000 ?_; subst hG)
  simp -implicitDefEqProofs [rc_slices_CompactFunc_api_Issue_api_Issue, rr_slices_CompactFunc_api_Issue_api_Issue, fM2]
  by_cases hs : (l.length : Int) < 2
  · have e : cmpct l = l := cmp_noD fun j h1 h2 => by omega
    simp -implicitDefEqProofs [hs]
    refine ⟨[.osl 1000 l.length], ?_, ?_, ?_⟩
    · simp [evRess, evRes, frzSt, newK, frzA, frz, AV.keys, lk, St.tmp, rr_slices_CompactFunc_api_Issue_api_Issue]
    · simp [cmpV, e, tupV]
    · simp [frzSt, newK, frz_isa, cmpO, e]
  simp -implicitDefEqProofs [hs]
  refine AR_for (fun i => ⟨[(5, .int .i64 ((i : Int) + 1)), (0, .osl 1000 l.length), (1, fM2)], [(1000, .row 5 (l.map isa))]⟩) (fun i => noD l (i + 1)) (l.length - 1) ?_ (fun j h1 h2 => by omega) ?_ ?_
  · refine Weak.sub (by simp [lk, keptA, AV.keys, fM2]) ?_
    simp only [List.mem_cons, List.not_mem_nil, or_false, forall_eq_or_imp, forall_eq, isa_kept, and_true]
    simp [lk]
  · intro i hi hn
    refine GO_AR mixed 1000 ?_
    have k1 : (i : Int) + 1 < l.length := by omega
    have k2 : ((i : Int) + 1).toNat = i + 1 := by omega
    have k3 : (0 : Int) ≤ (i : Int) + 1 := by omega
    have k4 : i + 1 < l.length := by omega
    have k5 : i < l.length := by omega
    have w1 : IntKind.i64.wrap (i : Int) = i := wrapI (by omega) (by omega)
    have w2 : IntKind.i64.wrap ((i : Int) + 1 + 1) = (i : Int) + 1 + 1 := wrapI (by omega) (by omega)
    have ex : ∀ x, isa x = [.int .i64 x.d, .int .i64 x.l, .int .u8 x.k, .vsl (x.its.map ita), .vsl (x.dms.map dma)] := fun x => rfl
    simp -implicitDefEqProofs [fM2, k1, k2, k3, k4, k5, w1, ex]
    refine CallD.of (merge2_pc l[i + 1] l[i]) (by simp [AV.pure, isa]) ?_
    have hsm : smN (l.getD (i + 1) default) (l.getD i default) = decide (l[i + 1].d = l[i].d ∧ l[i + 1].l = l[i].l) := by rw [getD_lt k4, getD_lt k5]; rfl
    by_cases hd : l[i + 1].d = l[i].d ∧ l[i + 1].l = l[i].l
    · simp -implicitDefEqProofs [hd]
      refine ⟨rfl, ?_⟩
      rw [decide_eq_true hd] at hsm
      have hs2 : i + 1 ≠ 0 ∧ smN (l.getD (i + 1) default) (l.getD (i + 1 - 1) default) = true := ⟨by omega, hsm⟩
      have hk := kN_noD hn (by omega)
      have hk1 : (kN l (i + 1)).length = i + 1 := by rw [hk]; simp; omega
      obtain ⟨c1, c2⟩ := cpS_skip hs2
      have c3 : cpS l (i + 1) = l := by rw [cpS, hk1, hk, List.take_append_drop]
      have hkl := fun p => kN_lt (l := l) (k := i + 1) (by omega) hsm p
      have k6 : i + 1 ≤ l.length := by omega
      simp -implicitDefEqProofs [k2, k3, k6]
      refine AR_for (fun j => ⟨[(7, .int .i64 ((j : Int) + 1)), (6, .oss 1000 l.length (i + 1) l.length), (5, .int .i64 (kN l (i + 1 + 1 + j)).length), (0, .osl 1000 l.length), (1, .func (.func 95) [] [])], [(1000, .row 5 ((cpS l (i + 1 + 1 + j)).map isa))]⟩) (fun _ => True) (l.length - (i + 1 + 1)) ?_ trivial ?_ ?_
      · have z1 : cpS l (i + 1 + 1 + 0) = l := by rw [Nat.add_zero, c1, c3]
        have z2 : (kN l (i + 1 + 1 + 0)).length = i + 1 := by rw [Nat.add_zero, c2, hk1]
        rw [z1, z2]
        refine Weak.sub (by simp [lk, keptA, AV.keys]) ?_
        simp only [List.mem_cons, List.not_mem_nil, or_false, forall_eq_or_imp, forall_eq, isa_kept, and_true]
        simp [lk]
      · intro j hj _
        refine GO_AR mixed 1000 ?_
        have hq : i + 1 + 1 + j < l.length := by omega
        have hq2 : i + 1 + j < l.length := by omega
        have hml := hkl (i + 1 + 1 + j) (by omega)
        have hcl := cpS_len (l := l) (p := i + 1 + 1 + j) (by omega)
        have a1 := cpS_at (j := i + 1 + 1 + j) hq (by omega) (by omega)
        have a2 := cpS_at (j := i + 1 + j) hq (by omega) (by omega)
        rw [getD_lt hq] at a1
        rw [getD_lt hq2] at a2
        have hkeep := cpS_keep hq
        have hskip := cpS_skip (l := l) (p := i + 1 + 1 + j)
        have e3 : i + 1 + 1 + j - 1 = i + 1 + j := by omega
        have hkk : kN l (i + 1 + 1 + j + 1) = kN l (i + 1 + 1 + j + 1) := rfl
        conv at hkk => rhs; rw [kN]
        have hsm2 : smN (l.getD (i + 1 + 1 + j) default) (l.getD (i + 1 + j) default) = decide (l[i + 1 + 1 + j].d = l[i + 1 + j].d ∧ l[i + 1 + 1 + j].l = l[i + 1 + j].l) := by rw [getD_lt hq, getD_lt hq2]; rfl
        rw [e3, hsm2, getD_lt hq] at hkeep hkk
        rw [e3, hsm2] at hskip
        have e4 : i + 1 + 1 + (j + 1) = i + 1 + 1 + j + 1 := by omega
        have m1 : (j : Int) + 1 < ((l.length - (i + 1) : Nat) : Int) := by omega
        have m2 : ((j : Int) + 1).toNat = j + 1 := by omega
        have m3 : (0 : Int) ≤ (j : Int) + 1 := by omega
        have m4 : j + 1 < l.length - (i + 1) := by omega
        have m5 : j < l.length - (i + 1) := by omega
        have m6 : i + 1 + (j + 1) = i + 1 + 1 + j := by omega
        have u1 : IntKind.i64.wrap (j : Int) = j := wrapI (by omega) (by omega)
        have u2 : IntKind.i64.wrap ((j : Int) + 1 + 1) = (j : Int) + 1 + 1 := wrapI (by omega) (by omega)
        have u3 : IntKind.i64.wrap (((kN l (i + 1 + 1 + j)).length : Int) + 1) = (kN l (i + 1 + 1 + j)).length + 1 := wrapI (by omega) (by omega)
        have m7 : (kN l (i + 1 + 1 + j)).length < l.length := by omega
        have hpl := kN_len l (i + 1 + 1 + j)
        generalize cpS l (i + 1 + 1 + j) = Q at *
        obtain ⟨q1, g1⟩ := List.getElem?_eq_some_iff.1 a1
        obtain ⟨q2, g2⟩ := List.getElem?_eq_some_iff.1 a2
        generalize l[i + 1 + 1 + j] = x at *
        generalize l[i + 1 + j] = y at *
        have ex1 := ex x
        have ey1 := ex y
        simp -implicitDefEqProofs [m1, m2, m3, m4, m5, m6, u1, u2, hq, hq2, g1, g2, hcl, ex1, ey1]
        refine CallD.of (merge2_pc x y) (by simp [AV.pure, isa]) ?_
        by_cases hd2 : x.d = y.d ∧ x.l = y.l
        · obtain ⟨f1, f2⟩ := hskip ⟨by omega, decide_eq_true hd2⟩
          simp -implicitDefEqProofs [hd2, u2]
          refine ⟨rfl, ?_⟩
          rw [e4, f1, f2]
          refine Weak.sub (by simp [lk, keptA, AV.keys]) ?_
          simp only [List.mem_cons, List.not_mem_nil, or_false, forall_eq_or_imp, forall_eq, isa_kept, and_true]
          simp [lk]
        · have hn2 : ¬ (i + 1 + 1 + j ≠ 0 ∧ decide (x.d = y.d ∧ x.l = y.l) = true) := by
            rintro ⟨-, h⟩; exact hd2 (of_decide_eq_true h)
          have f1 := hkeep hn2
          rw [if_neg hn2] at hkk
          have il : ∀ z : Iss, (isa z).length = 5 := fun z => rfl
          have id5 : ∀ z : Iss, (isa z).drop 5 = [] := fun z => rfl
          have m8 : (((kN l (i + 1 + 1 + j)).length : Int) + 1) = ((kN l (i + 1 + 1 + j + 1)).length : Nat) := by rw [hkk]; simp
          simp -implicitDefEqProofs [hd2, m1, m2, m3, m4, m5, m6, u1, u2, u3, hq, hq2, g1, g2, hcl, ex1, ey1, m7, il, id5]
          refine ⟨rfl, ?_⟩
          rw [← ex1, ← List.map_set, f1, m8, e4]
          refine Weak.sub (by simp [lk, keptA, AV.keys]) ?_
          simp only [List.mem_cons, List.not_mem_nil, or_false, forall_eq_or_imp, forall_eq, isa_kept, and_true]
          simp [lk]
      · intro _
        refine GO_AR mixed 1000 ?_
        have n1 : ¬ (((l.length - (i + 1 + 1) : Nat) : Int) + 1 < ((l.length - (i + 1) : Nat) : Int)) := by omega
        have e5 : i + 1 + 1 + (l.length - (i + 1 + 1)) = l.length := by omega
        rw [e5]
        have hml := hkl l.length (by omega)
        have hcl := cpS_len (l := l) (p := l.length) (Nat.le_refl _)
        have n2 : (kN l l.length).length ≤ l.length := by omega
        simp -implicitDefEqProofs [n1, hcl]
        refine GO_ret mixed 1000 ?_
        simp -implicitDefEqProofs [hcl, n2]
        refine GO_ret mixed 1000 ?_
        have t1 : List.take (kN l l.length).length ((cpS l l.length).map isa) = (cmpct l).map isa := by
          rw [← List.map_take, cpS, List.take_left']; rfl
          rfl
        have t2 : List.drop l.length ((cpS l l.length).map isa) = [] := List.drop_of_length_le (by simp [hcl])
        rw [t1, t2, List.append_nil]
        have hne : ¬ (cmpct l).length = l.length := by rw [cmpct]; omega
        refine ⟨[.oss 1000 l.length 0 (kN l l.length).length], ?_, ?_, ?_⟩
        · simp [evRess, evRes, frzSt, newK, frzA, frz, AV.keys, lk, St.tmp]
        · rw [cmpV, if_neg hne]; rfl
        · have hz : List.map isa (cmpct l) ++ List.replicate (l.length - (kN l l.length).length) [AV.int .i64 0, AV.int .i64 0, AV.int .u8 0, AV.nils, AV.nils] = cmpO l := rfl
          rw [hz]
          simp [frzSt, newK, frz_cmpO]
    · rw [decide_eq_false hd] at hsm
      simp -implicitDefEqProofs [hd, w2]
      refine ⟨rfl, ?_, fun j h1 h2 => ?_⟩
      · ((try simp only [fM2]); refine Weak.sub (by simp [lk, keptA, AV.keys, fM2]) ?_; simp only [fM2, List.cons_append, List.nil_append, List.mem_cons, List.not_mem_nil, or_false, forall_eq_or_imp, forall_eq, isa_kept, and_true]; (try simp [lk, keptO, keptA, AV.keys, fM2]))
      · rcases Nat.lt_or_ge j (i + 1) with h | h
        · exact hn j h1 h
        · have : j = i + 1 := by omega
          subst this; exact hsm
  · intro hn
    refine GO_AR mixed 1000 ?_
    have k1 : ¬ ((l.length - 1 : Nat) : Int) + 1 < l.length := by omega
    have e : cmpct l = l := cmp_noD (by have : l.length - 1 + 1 = l.length := by omega
                                        rwa [this] at hn)
    simp -implicitDefEqProofs [k1, fM2]
    refine GO_ret mixed 1000 ?_
    simp -implicitDefEqProofs []
    refine ⟨[.osl 1000 l.length], ?_, ?_, ?_⟩
    · simp [evRess, evRes, frzSt, newK, frzA, frz, AV.keys, lk, St.tmp, rr_slices_CompactFunc_api_Issue_api_Issue]
    · simp [cmpV, e, tupV]
    · simp [frzSt, newK, frz_isa, cmpO, e]
end
end Go.Proofs.YtdpmioiamcgfkaaDoor

/-! Issues that are the same, by the abstract machine. -/
namespace Go.Proofs.YtdpmioiamcgfkaaDoor
open Go.RowKit
section
variable {G : Nat → Option (List AV)}

theorem equalI_pc (a b : List (Int × Int)) (ha : Sml a) : PC Tryd.prog G 137 [.vsl (a.map ita), .vsl (b.map ita)] (.bool (decide (a = b))) := by
  (refine pc_slices_Equal_api_Item_api_Item (Nat.le_of_ble_eq_true rfl) fun R hG hrd => GO_AR mixed 1000 ?_; subst hG)
  by_cases hl : a.length = b.length
  · have hl' : (a.length : Int) = b.length := by omega
    simp -implicitDefEqProofs [rc_slices_Equal_api_Item_api_Item, rr_slices_Equal_api_Item_api_Item, hl']
    refine AR_for (fun i => ⟨[(13, .int .i64 i), (12, .int .i64 a.length), (0, .vsl (a.map ita)), (1, .vsl (b.map ita))], []⟩) (fun i => ∀ j (h : j < a.length), j < i → a[j] = b[j]) a.length (by rw [hl']; (first | exact Weak.tm (by simp [lk]) | exact Weak.sub (by simp [lk, keptA, AV.keys]) (by simp [lk, keptO, keptA, AV.keys]))) (by simp) ?_ ?_
    · intro i hi he
      refine GO_AR mixed 1000 ?_
      unfold Sml at ha
      have hi2 : i < b.length := by omega
      have w1 : IntKind.i64.wrap ((i : Int) + 1) = ((i + 1 : Nat) : Int) := wrapI (by omega) (by omega)
      simp -implicitDefEqProofs [hi, hi2, ita]
      refine ⟨rfl, ?_⟩
      by_cases h2 : a[i] = b[i]
      · simp -implicitDefEqProofs [h2, w1]
        refine ⟨(by (first | exact Weak.tm (by simp [lk]) | exact Weak.sub (by simp [lk, keptA, AV.keys]) (by simp [lk, keptO, keptA, AV.keys]))), fun j h1 h3 => ?_⟩
        by_cases e : j = i
        · subst e; exact h2
        · exact he j h1 (by omega)
      · have h3 : ¬ a = b := fun e => h2 (by subst e; rfl)
        rw [pair_ne h2]
        simp -implicitDefEqProofs []
        refine GO_ret mixed 1000 ?_
        simp -implicitDefEqProofs [h3]
    · intro he
      refine GO_AR mixed 1000 ?_
      have h3 : a = b := List.ext_getElem hl fun j h1 h2 => he j h1 h1
      simp -implicitDefEqProofs []
      refine GO_ret mixed 1000 ?_
      simp -implicitDefEqProofs [h3]
  · have hl' : ¬ (a.length : Int) = b.length := by omega
    have h3 : ¬ a = b := fun e => hl (by rw [e])
    simp -implicitDefEqProofs [rc_slices_Equal_api_Item_api_Item, rr_slices_Equal_api_Item_api_Item, hl', h3]
theorem equalD_pc (a b : List Dm) (ha : Sml a) : PC Tryd.prog G 129 [.vsl (a.map dma), .vsl (b.map dma)] (.bool (decide (a = b))) := by
  (refine pc_slices_Equal_api_Dim_api_Dim (Nat.le_of_ble_eq_true rfl) fun R hG hrd => GO_AR mixed 1000 ?_; subst hG)
  by_cases hl : a.length = b.length
  · have hl' : (a.length : Int) = b.length := by omega
    simp -implicitDefEqProofs [rc_slices_Equal_api_Dim_api_Dim, rr_slices_Equal_api_Dim_api_Dim, hl']
    refine AR_for (fun i => ⟨[(13, .int .i64 i), (12, .int .i64 a.length), (0, .vsl (a.map dma)), (1, .vsl (b.map dma))], []⟩) (fun i => ∀ j (h : j < a.length), j < i → a[j] = b[j]) a.length (by rw [hl']; (first | exact Weak.tm (by simp [lk]) | exact Weak.sub (by simp [lk, keptA, AV.keys]) (by simp [lk, keptO, keptA, AV.keys]))) (by simp) ?_ ?_
    · intro i hi he
      refine GO_AR mixed 1000 ?_
      unfold Sml at ha
      have hi2 : i < b.length := by omega
      have w1 : IntKind.i64.wrap ((i : Int) + 1) = ((i + 1 : Nat) : Int) := wrapI (by omega) (by omega)
      simp -implicitDefEqProofs [hi, hi2, dma]
      refine ⟨rfl, ?_⟩
      by_cases h2 : a[i] = b[i]
      · simp -implicitDefEqProofs [h2, w1]
        refine ⟨(by (first | exact Weak.tm (by simp [lk]) | exact Weak.sub (by simp [lk, keptA, AV.keys]) (by simp [lk, keptO, keptA, AV.keys]))), fun j h1 h3 => ?_⟩
        by_cases e : j = i
        · subst e; exact h2
        · exact he j h1 (by omega)
      · have h3 : ¬ a = b := fun e => h2 (by subst e; rfl)
        rw [dm_ne h2]
        simp -implicitDefEqProofs []
        refine GO_ret mixed 1000 ?_
        simp -implicitDefEqProofs [h3]
    · intro he
      refine GO_AR mixed 1000 ?_
      have h3 : a = b := List.ext_getElem hl fun j h1 h2 => he j h1 h1
      simp -implicitDefEqProofs []
      refine GO_ret mixed 1000 ?_
      simp -implicitDefEqProofs [h3]
  · have hl' : ¬ (a.length : Int) = b.length := by omega
    have h3 : ¬ a = b := fun e => hl (by rw [e])
    simp -implicitDefEqProofs [rc_slices_Equal_api_Dim_api_Dim, rr_slices_Equal_api_Dim_api_Dim, hl', h3]

theorem sameC_pc (x y : Iss) (h : Sml x.dms) : PC Tryd.prog G 128 [.vptr (isa x) 0, .vptr (isa y) 0] (.bool (decide (x.dms = y.dms))) := by
  (refine pc_sheet_same_1 (Nat.le_of_ble_eq_true rfl) fun R hG hrd => GO_AR mixed 1000 ?_; subst hG)
  simp -implicitDefEqProofs [rc_sheet_same_1, rr_sheet_same_1, isa]
  (first | refine CallK.of (equalD_pc x.dms y.dms h) (by simp) ?_ | refine CallD.of (equalD_pc x.dms y.dms h) (by simp) ?_)
  simp -implicitDefEqProofs []
theorem alike_pc (a b : List (Int × Int)) (x y : Iss) (h1 : Sml a) (h2 : Sml x.dms) : PC Tryd.prog G 127 [.vsl (a.map ita), .vsl (b.map ita), .func (.func 128) [] [.vptr (isa x) 0, .vptr (isa y) 0]] (.bool (decide (a = b) && decide (x.dms = y.dms))) := by
  (refine pc_sheet_alike_api_Item (Nat.le_of_ble_eq_true rfl) fun R hG hrd => GO_AR mixed 1000 ?_; subst hG)
  simp -implicitDefEqProofs [rc_sheet_alike_api_Item, rr_sheet_alike_api_Item]
  (first | refine CallK.of (equalI_pc a b h1) (by simp) ?_ | refine CallD.of (equalI_pc a b h1) (by simp) ?_)
  by_cases e : a = b
  · simp -implicitDefEqProofs [e]
    refine CallK.of (sameC_pc x y h2) (by simp [AV.pure, isa]) ?_
    simp -implicitDefEqProofs []
  · simp -implicitDefEqProofs [e]
theorem sameS_pc (x y : Iss) (h1 : Sml x.its) (h2 : Sml x.dms) : PC Tryd.prog G 114 [.agg (isa x), .agg (isa y)] (.bool (decide (x = y))) := by
  (refine pc_sheet_same (Nat.le_of_ble_eq_true rfl) fun R hG hrd => GO_AR mixed 1000 ?_; subst hG)
  have hd : decide (x = y) = (decide (x.d = y.d) && decide (x.l = y.l) && decide (x.k = y.k) && (decide (x.its = y.its) && decide (x.dms = y.dms))) := by
    rw [Bool.eq_iff_iff]
    simp only [decide_eq_true_eq, Bool.and_eq_true]
    constructor
    · rintro rfl; simp
    · rintro ⟨⟨⟨e1, e2⟩, e3⟩, e4, e5⟩
      cases x; cases y; simp_all
  have ex : isa x = [.int .i64 x.d, .int .i64 x.l, .int .u8 x.k, .vsl (x.its.map ita), .vsl (x.dms.map dma)] := rfl
  have ey : isa y = [.int .i64 y.d, .int .i64 y.l, .int .u8 y.k, .vsl (y.its.map ita), .vsl (y.dms.map dma)] := rfl
  simp -implicitDefEqProofs [rc_sheet_same, rr_sheet_same, ex, ey, hd]
  (first | refine CallK.of (name_pc x) (by simp) ?_ | refine CallD.of (name_pc x) (by simp) ?_)
  simp -implicitDefEqProofs []
  (first | refine CallK.of (name_pc y) (by simp) ?_ | refine CallD.of (name_pc y) (by simp) ?_)
  cases e1 : decide (x.d = y.d)
  · have e1' := of_decide_eq_false e1
    simp -implicitDefEqProofs [e1']
    exact rfl
  have e1' := of_decide_eq_true e1
  cases e2 : decide (x.l = y.l)
  · have e2' := of_decide_eq_false e2
    simp -implicitDefEqProofs [e1', e2']
    exact rfl
  have e2' := of_decide_eq_true e2
  cases e3 : decide (x.k = y.k)
  · have e3' := of_decide_eq_false e3
    simp -implicitDefEqProofs [e1', e2', e3']
    exact rfl
  have e3' := of_decide_eq_true e3
  simp -implicitDefEqProofs [e1', e2', e3']
  have al := alike_pc (G := R.G) x.its y.its x y h1 h2
  rw [ex, ey, e1', e2', e3'] at al
  refine CallD.flat al (by simp [AV.flat]) (by simp) ?_
  simp -implicitDefEqProofs []
  exact rfl
end
end Go.Proofs.YtdpmioiamcgfkaaDoor

/-! What clashes, by the abstract machine. -/
namespace Go.Proofs.YtdpmioiamcgfkaaDoor
open Go.RowKit

def clB (b : List Iss) (x : Iss) : Bool := match findN x.d x.l b with
  | some y => !decide (x = y)
  | none => false
def clN (a b : List Iss) (i : Nat) : List (Int × Int) := ((a.take i).filter (clB b)).map fun x => (x.d, x.l)
theorem clN_succ {a b : List Iss} {i : Nat} (h : i < a.length) : clN a b (i + 1) = if clB b a[i] = true then clN a b i ++ [(a[i].d, a[i].l)] else clN a b i := by
  rw [clN, List.take_succ_eq_append_getElem h, List.filter_append, List.map_append]
  split
  · rename_i e; simp [clN, List.filter_cons, e]
  · rename_i e; simp [clN, List.filter_cons, e]
theorem clN_len (a b : List Iss) (i : Nat) : (clN a b i).length ≤ i := by
  simp only [clN, List.length_map]
  exact Nat.le_trans (List.length_filter_le _ _) (by simp; omega)
def bothE (a b : List Iss) : Int := if openV a = 0 then openV b else openV a
def clE (a b : List Iss) : List (Int × Int) := if bothE a b = 0 then clN a b a.length else []
def clS (a b : List Iss) (i : Nat) : St := if clN a b i = [] then ⟨[(31, .int .i64 i), (30, .int .i64 a.length), (29, .vsl (a.map isa)), (8, bkA b (nums b)), (10, .nils)], []⟩
  else ⟨[(31, .int .i64 i), (30, .int .i64 a.length), (29, .vsl (a.map isa)), (8, bkA b (nums b)), (10, .osl 53 (clN a b i).length)], [(53, .row 2 ((clN a b i).map ita))]⟩
section
variable {G : Nat → Option (List AV)}

theorem clash_pc (hG : GC G) (a b : List Iss) (ha : Wf a) (hb : Wf b) : ∃ bk, PC Tryd.prog G 87 [rega a, rega b] (.tup [.vsl ((clE a b).map ita), bk, .int .i64 (bothE a b)]) := by
  by_cases k1 : openV a = 0
  case neg =>
    refine ⟨_, PC.nzR (v := .tup [.nils, .nilp, .int .i64 (openV a)]) ?_ (by simp [nz, clE, bothE, k1]; rfl)⟩
    (refine pc_sheet_clash (Nat.le_of_ble_eq_true rfl) fun R hG hrd => GO_AR mixed 1000 ?_; subst hG)
    simp -implicitDefEqProofs [rc_sheet_clash, rr_sheet_clash, rega]
    (first | refine CallK.of (checkP_pc hG a ha) (by simp) ?_ | refine CallD.of (checkP_pc hG a ha) (by simp) ?_)
    simp -implicitDefEqProofs [k1]
  by_cases k2 : openV b = 0
  case neg =>
    refine ⟨_, PC.nzR (v := .tup [.nils, .nilp, .int .i64 (openV b)]) ?_ (by simp [nz, clE, bothE, k1, k2]; rfl)⟩
    (refine pc_sheet_clash (Nat.le_of_ble_eq_true rfl) fun R hG hrd => GO_AR mixed 1000 ?_; subst hG)
    simp -implicitDefEqProofs [rc_sheet_clash, rr_sheet_clash, rega]
    (first | refine CallK.of (checkP_pc hG a ha) (by simp) ?_ | refine CallD.of (checkP_pc hG a ha) (by simp) ?_)
    simp -implicitDefEqProofs [k1]
    (first | refine CallK.of (open_pc hG b hb) (by simp) ?_ | refine CallD.of (open_pc hG b hb) (by simp) ?_)
    simp -implicitDefEqProofs [openA, k2]
  have hL := open_listed k2
  have hO := ord_of hL
  have ev : clE a b = clN a b a.length := by simp [clE, bothE, k1, k2]
  have eb : bothE a b = 0 := by simp [bothE, k1, k2]
  rw [ev, eb]
  refine ⟨bkA b (nums b), PC.nzR (v := .tup [orNil ((clN a b a.length).map ita), bkA b (nums b), .int .i64 0]) ?_ (by simp [nz, nz_orNil, bkA])⟩
  (refine pc_sheet_clash (Nat.le_of_ble_eq_true rfl) fun R hG hrd => GO_AR mixed 1000 ?_; subst hG)
  have hs := ha.1.1
  unfold Sml at hs
  simp -implicitDefEqProofs [rc_sheet_clash, rr_sheet_clash, rega]
  (first | refine CallK.of (checkP_pc hG a ha) (by simp) ?_ | refine CallD.of (checkP_pc hG a ha) (by simp) ?_)
  simp -implicitDefEqProofs [k1]
  (first | refine CallK.of (open_pc hG b hb) (by simp) ?_ | refine CallD.of (open_pc hG b hb) (by simp) ?_)
  simp -implicitDefEqProofs [openA, k2]
  refine AR_for (clS a b) (fun _ => True) a.length ?_ trivial ?_ ?_
  · have e0 : clN a b 0 = [] := rfl
    simp only [clS, e0, if_true]
    (first | exact Weak.tm (by simp [lk, bkA, AV.keys]) | exact Weak.sub (by simp [lk, keptA, AV.keys, bkA, AV.keys]) (by simp [lk, keptO, keptA, AV.keys, bkA, AV.keys]))
  · intro i hi _
    refine GO_AR mixed 1000 ?_
    have w1 : IntKind.i64.wrap ((i : Int) + 1) = ((i + 1 : Nat) : Int) := wrapI (by omega) (by omega)
    have hx := ha.1.2 a[i] (List.getElem_mem hi)
    have hs := clN_succ (b := b) hi
    have bl := clN_len a b i
    have bb : ((clN a b i).length + 1) * 16 ≤ 70368744177664 := by omega
    have ex : isa a[i] = [.int .i64 a[i].d, .int .i64 a[i].l, .int .u8 a[i].k, .vsl (a[i].its.map ita), .vsl (a[i].dms.map dma)] := rfl
    cases q : findN a[i].d a[i].l b with
    | none =>
      have qb : clB b a[i] = false := by simp [clB, q]
      rw [if_neg (by simp [qb])] at hs
      by_cases z : clN a b i = []
      · rw [z] at hs
        simp -implicitDefEqProofs [clS, z, hi, ex]
        (first | refine CallK.of (name_pc a[i]) (by simp) ?_ | refine CallD.of (name_pc a[i]) (by simp) ?_)
        simp -implicitDefEqProofs [clS]
        (first | refine CallK.of (find_pcS b (nums b) a[i].d a[i].l (ord_map hO) hb.1.1 (find_own hL)) (by simp) ?_ | refine CallD.of (find_pcS b (nums b) a[i].d a[i].l (ord_map hO) hb.1.1 (find_own hL)) (by simp) ?_)
        simp -implicitDefEqProofs [clS, q, fndA, noIs, w1, hs]
        ((try simp only [ita, keys_bkA]); refine Weak.sub (by simp [lk, keptA, AV.keys, ita, keys_bkA]) ?_; simp only [ita, keys_bkA, List.cons_append, List.nil_append, List.mem_cons, List.not_mem_nil, or_false, forall_eq_or_imp, forall_eq, ita_kept, and_true]; (try simp [lk, keptO, keptA, AV.keys, ita, keys_bkA]))
      · simp -implicitDefEqProofs [clS, z, hi, ex]
        (first | refine CallK.of (name_pc a[i]) (by simp) ?_ | refine CallD.of (name_pc a[i]) (by simp) ?_)
        simp -implicitDefEqProofs [clS]
        (first | refine CallK.of (find_pcS b (nums b) a[i].d a[i].l (ord_map hO) hb.1.1 (find_own hL)) (by simp) ?_ | refine CallD.of (find_pcS b (nums b) a[i].d a[i].l (ord_map hO) hb.1.1 (find_own hL)) (by simp) ?_)
        simp -implicitDefEqProofs [clS, q, fndA, noIs, w1, hs, z]
        ((try simp only [ita, keys_bkA]); refine Weak.sub (by simp [lk, keptA, AV.keys, ita, keys_bkA]) ?_; simp only [ita, keys_bkA, List.cons_append, List.nil_append, List.mem_cons, List.not_mem_nil, or_false, forall_eq_or_imp, forall_eq, ita_kept, and_true]; (try simp [lk, keptO, keptA, AV.keys, ita, keys_bkA]))
    | some y =>
      have ey : isa y = [.int .i64 y.d, .int .i64 y.l, .int .u8 y.k, .vsl (y.its.map ita), .vsl (y.dms.map dma)] := rfl
      have qb : clB b a[i] = !decide (a[i] = y) := by simp [clB, q]
      rw [qb] at hs
      cases q2 : decide (a[i] = y)
      · simp only [q2, Bool.not_false, if_true] at hs
        by_cases z : clN a b i = []
        · rw [z] at hs
          simp -implicitDefEqProofs [clS, z, hi, ex]
          (first | refine CallK.of (name_pc a[i]) (by simp) ?_ | refine CallD.of (name_pc a[i]) (by simp) ?_)
          simp -implicitDefEqProofs [clS]
          (first | refine CallK.of (find_pcS b (nums b) a[i].d a[i].l (ord_map hO) hb.1.1 (find_own hL)) (by simp) ?_ | refine CallD.of (find_pcS b (nums b) a[i].d a[i].l (ord_map hO) hb.1.1 (find_own hL)) (by simp) ?_)
          simp -implicitDefEqProofs [clS, q, fndA, ey]
          (first | refine CallK.of (sameS_pc a[i] y hx.1 hx.2) (by simp) ?_ | refine CallD.of (sameS_pc a[i] y hx.1 hx.2) (by simp) ?_)
          simp -implicitDefEqProofs [clS, q2]
          (first | refine CallK.of (name_pc a[i]) (by simp) ?_ | refine CallD.of (name_pc a[i]) (by simp) ?_)
          simp -implicitDefEqProofs [clS, w1, hs]
          ((try simp only [ita, keys_bkA]); refine Weak.sub (by simp [lk, keptA, AV.keys, ita, keys_bkA]) ?_; simp only [ita, keys_bkA, List.cons_append, List.nil_append, List.mem_cons, List.not_mem_nil, or_false, forall_eq_or_imp, forall_eq, ita_kept, and_true]; (try simp [lk, keptO, keptA, AV.keys, ita, keys_bkA]))
        · simp -implicitDefEqProofs [clS, z, hi, ex]
          (first | refine CallK.of (name_pc a[i]) (by simp) ?_ | refine CallD.of (name_pc a[i]) (by simp) ?_)
          simp -implicitDefEqProofs [clS]
          (first | refine CallK.of (find_pcS b (nums b) a[i].d a[i].l (ord_map hO) hb.1.1 (find_own hL)) (by simp) ?_ | refine CallD.of (find_pcS b (nums b) a[i].d a[i].l (ord_map hO) hb.1.1 (find_own hL)) (by simp) ?_)
          simp -implicitDefEqProofs [clS, q, fndA, ey]
          (first | refine CallK.of (sameS_pc a[i] y hx.1 hx.2) (by simp) ?_ | refine CallD.of (sameS_pc a[i] y hx.1 hx.2) (by simp) ?_)
          simp -implicitDefEqProofs [clS, q2]
          (first | refine CallK.of (name_pc a[i]) (by simp) ?_ | refine CallD.of (name_pc a[i]) (by simp) ?_)
          simp -implicitDefEqProofs [clS, w1, hs, z, bb]
          ((try simp only [ita, keys_bkA]); refine Weak.sub (by simp [lk, keptA, AV.keys, ita, keys_bkA]) ?_; simp only [ita, keys_bkA, List.cons_append, List.nil_append, List.mem_cons, List.not_mem_nil, or_false, forall_eq_or_imp, forall_eq, ita_kept, and_true]; (try simp [lk, keptO, keptA, AV.keys, ita, keys_bkA]))
      · simp only [q2, Bool.not_true, Bool.false_eq_true, if_false] at hs
        by_cases z : clN a b i = []
        · rw [z] at hs
          simp -implicitDefEqProofs [clS, z, hi, ex]
          (first | refine CallK.of (name_pc a[i]) (by simp) ?_ | refine CallD.of (name_pc a[i]) (by simp) ?_)
          simp -implicitDefEqProofs [clS]
          (first | refine CallK.of (find_pcS b (nums b) a[i].d a[i].l (ord_map hO) hb.1.1 (find_own hL)) (by simp) ?_ | refine CallD.of (find_pcS b (nums b) a[i].d a[i].l (ord_map hO) hb.1.1 (find_own hL)) (by simp) ?_)
          simp -implicitDefEqProofs [clS, q, fndA, ey]
          (first | refine CallK.of (sameS_pc a[i] y hx.1 hx.2) (by simp) ?_ | refine CallD.of (sameS_pc a[i] y hx.1 hx.2) (by simp) ?_)
          simp -implicitDefEqProofs [clS, q2, w1, hs]
          ((try simp only [ita, keys_bkA]); refine Weak.sub (by simp [lk, keptA, AV.keys, ita, keys_bkA]) ?_; simp only [ita, keys_bkA, List.cons_append, List.nil_append, List.mem_cons, List.not_mem_nil, or_false, forall_eq_or_imp, forall_eq, ita_kept, and_true]; (try simp [lk, keptO, keptA, AV.keys, ita, keys_bkA]))
        · simp -implicitDefEqProofs [clS, z, hi, ex]
          (first | refine CallK.of (name_pc a[i]) (by simp) ?_ | refine CallD.of (name_pc a[i]) (by simp) ?_)
          simp -implicitDefEqProofs [clS]
          (first | refine CallK.of (find_pcS b (nums b) a[i].d a[i].l (ord_map hO) hb.1.1 (find_own hL)) (by simp) ?_ | refine CallD.of (find_pcS b (nums b) a[i].d a[i].l (ord_map hO) hb.1.1 (find_own hL)) (by simp) ?_)
          simp -implicitDefEqProofs [clS, q, fndA, ey]
          (first | refine CallK.of (sameS_pc a[i] y hx.1 hx.2) (by simp) ?_ | refine CallD.of (sameS_pc a[i] y hx.1 hx.2) (by simp) ?_)
          simp -implicitDefEqProofs [clS, q2, w1, hs, z]
          ((try simp only [ita, keys_bkA]); refine Weak.sub (by simp [lk, keptA, AV.keys, ita, keys_bkA]) ?_; simp only [ita, keys_bkA, List.cons_append, List.nil_append, List.mem_cons, List.not_mem_nil, or_false, forall_eq_or_imp, forall_eq, ita_kept, and_true]; (try simp [lk, keptO, keptA, AV.keys, ita, keys_bkA]))
  · intro _
    refine GO_AR mixed 1000 ?_
    by_cases z : clN a b a.length = []
    · simp -implicitDefEqProofs [clS, z]
      refine GO_ret mixed 1000 ?_
      simp -implicitDefEqProofs [z, orNil, bkA]
    · have pu : ((clN a b a.length).map ita).all (fun r => r.all AV.pure) = true := by simp [ita, AV.pure]
      simp -implicitDefEqProofs [clS, z]
      refine GO_ret mixed 1000 ?_
      simp -implicitDefEqProofs [z, pu, orNil, bkA]
end
end Go.Proofs.YtdpmioiamcgfkaaDoor

/-! Registers put together: plain; copies. -/
namespace Go.Proofs.YtdpmioiamcgfkaaDoor
open Go.RowKit

def mgL (a b : List Iss) : List Iss := cmpct (sortN (a ++ b))
def mgE (a b : List Iss) : List Iss × Int := if bothE a b = 0 then if clN a b a.length = [] then if openV (mgL a b) = 0 then (mgL a b, 0) else ([], openV (mgL a b)) else ([], 23) else ([], bothE a b)

theorem issB_okN {x : Iss} (h : issB x = true) : okN x := by
  simp only [issB, headB, Bool.and_eq_true, inR, decide_eq_true_eq] at h
  obtain ⟨⟨⟨⟨⟨h1, h2⟩, -⟩, -⟩, -⟩, -⟩ := h
  exact ⟨h1.1, h1.2, h2.1, h2.2⟩
theorem listed_okN {r : List Iss} (h : listedB r = true) : ∀ x ∈ r, okN x := fun x hx => by
  simp only [listedB, Bool.and_eq_true] at h
  exact issB_okN (List.all_eq_true.1 h.1.1.1.2 x hx)
theorem listed_inj {r : List Iss} (h : listedB r = true) : InjN r := fun x hx y hy e => by
  obtain ⟨e1, e2⟩ := (kyN_eq (listed_okN h x hx) (listed_okN h y hy)).1 e
  have f1 := find_own h x hx
  have f2 := find_own h y hy
  rw [e1, e2, f2] at f1
  exact (Option.some.inj f1).symm
theorem mg_inj {a b : List Iss} (ha : listedB a = true) (hb : listedB b = true) (hc : clN a b a.length = []) : InjN (a ++ b) := by
  have hcl : ∀ x ∈ a, clB b x = false := fun x hx => by
    have : (a.take a.length).filter (clB b) = [] := by simpa [clN] using hc
    rw [List.take_length, List.filter_eq_nil_iff] at this
    simpa using this x hx
  have hab : ∀ x ∈ a, ∀ y ∈ b, kyN x = kyN y → x = y := fun x hx y hy e => by
    obtain ⟨e1, e2⟩ := (kyN_eq (listed_okN ha x hx) (listed_okN hb y hy)).1 e
    have f2 := find_own hb y hy
    have := hcl x hx
    rw [clB, e1, e2, f2] at this
    simpa using this
  intro x hx y hy e
  rcases List.mem_append.1 hx with hx | hx <;> rcases List.mem_append.1 hy with hy | hy
  · exact listed_inj ha x hx y hy e
  · exact hab x hx y hy e
  · exact (hab y hy x hx e.symm).symm
  · exact listed_inj hb x hx y hy e
theorem kN_mem {l : List Iss} {x : Iss} : ∀ {p : Nat}, p ≤ l.length → x ∈ kN l p → x ∈ l
  | 0, _, h => by cases h
  | p + 1, hp, h => by
    rw [kN] at h
    split at h
    · exact kN_mem (by omega) h
    · rcases List.mem_append.1 h with h | h
      · exact kN_mem (by omega) h
      · rw [List.mem_singleton] at h
        rw [h, getD_lt (by omega : p < l.length)]
        exact List.getElem_mem _
theorem mgL_mem {a b : List Iss} {x : Iss} (h : x ∈ mgL a b) : x ∈ a ++ b := sortN_mem.1 (kN_mem (Nat.le_refl _) h)
theorem mgL_len (a b : List Iss) : (mgL a b).length ≤ a.length + b.length := by
  have := kN_len (sortN (a ++ b)) (sortN (a ++ b)).length
  rw [sortN_len, List.length_append] at this
  rw [mgL, cmpct, sortN_len, List.length_append]; exact this
theorem mgL_wf {a b : List Iss} (ha : Wf a) (hb : Wf b) (h1 : a.length ≤ 400) (h2 : b.length ≤ 400) : Wf (mgL a b) := by
  refine ⟨⟨?_, fun x hx => ?_⟩, fun x hx => ?_⟩
  · have := mgL_len a b
    unfold Sml; omega
  · rcases List.mem_append.1 (mgL_mem hx) with h | h
    · exact ha.1.2 x h
    · exact hb.1.2 x h
  · rcases List.mem_append.1 (mgL_mem hx) with h | h
    · exact ha.2 x h
    · exact hb.2 x h
section
variable {G : Nat → Option (List AV)}

theorem copied_pc (x : Iss) (h1 : Sml x.its) (h2 : Sml x.dms) : PC Tryd.prog G 73 [.agg (isa x)] (.agg (isa x)) := by
  have p1 : (x.its.map ita).all (fun r => r.all AV.pure) = true := by simp [ita, AV.pure]
  have p2 : (x.dms.map dma).all (fun r => r.all AV.pure) = true := by simp [dma, AV.pure]
  (refine pc_sheet_copied (Nat.le_of_ble_eq_true rfl) fun R hG hrd => GO_AR mixed 1000 ?_; subst hG)
  by_cases e1 : x.its = [] <;> by_cases e2 : x.dms = []
  · simp -implicitDefEqProofs [rc_sheet_copied, rr_sheet_copied, isa, e1, e2]
    refine CallND.of cloneI_pc0 (by simp) ?_
    simp -implicitDefEqProofs []
    refine CallND.of cloneD_pc0 (by simp) ?_
    simp -implicitDefEqProofs []
    exact rfl
  · simp -implicitDefEqProofs [rc_sheet_copied, rr_sheet_copied, isa, e1]
    refine CallND.of cloneI_pc0 (by simp) ?_
    simp -implicitDefEqProofs []
    refine CallND.new (cloneD_pn _ e2 h2) (by simp) (by simp [lk, St.get]) ?_
    simp -implicitDefEqProofs [p2]
    exact rfl
  · simp -implicitDefEqProofs [rc_sheet_copied, rr_sheet_copied, isa, e2]
    refine CallND.new (cloneI_pn _ e1 h1) (by simp) (by simp [lk, St.get]) ?_
    simp -implicitDefEqProofs []
    refine CallND.of cloneD_pc0 (by simp) ?_
    simp -implicitDefEqProofs [p1]
    exact rfl
  · simp -implicitDefEqProofs [rc_sheet_copied, rr_sheet_copied, isa]
    refine CallND.new (cloneI_pn _ e1 h1) (by simp) (by simp [lk, St.get]) ?_
    simp -implicitDefEqProofs []
    refine CallND.new (cloneD_pn _ e2 h2) (by simp) (by simp [lk, St.get]) ?_
    simp -implicitDefEqProofs [p1, p2]
    exact rfl
end
end Go.Proofs.YtdpmioiamcgfkaaDoor

/-! Registers put together, by the abstract machine. -/
namespace Go.Proofs.YtdpmioiamcgfkaaDoor
open Go.RowKit

def fM (l : List Iss) (i : Nat) : St := match i with
  | 0 => ⟨[(35, .int .i64 0), (34, .int .i64 l.length), (33, .vsl (l.map isa)), (9, .ptr 9 0), (4, .ptr 4 0)], [(9, .box [.nils]), (4, .box [.nils])]⟩
  | i + 1 => ⟨[(35, .int .i64 (i + 1 : Nat)), (34, .int .i64 l.length), (33, .vsl (l.map isa)), (9, .ptr 9 0), (4, .ptr 4 0)], [(9, .box [.osl 44 (i + 1)]), (4, .box [.nils]), (44, .row 5 (twR l (i + 1)))]⟩
section
variable {G : Nat → Option (List AV)}

set_option maxHeartbeats 1000000 in
theorem merge_few_pc (hG : GC G) (a b : List Iss) (ha : Wf a) (hb : Wf b) (hs : bothE a b = 0 → a.length + b.length < 20) : PC Tryd.prog G 49 [rega a, rega b] (.tup [rega (mgE a b).1, .int .i64 (mgE a b).2]) := by
  obtain ⟨bk, hcl⟩ := clash_pc hG a b ha hb
  by_cases k0 : bothE a b = 0
  case neg =>
    refine PC.nzR (v := .tup [.agg [.nils], .int .i64 (bothE a b)]) ?_ (by simp [nz, mgE, k0, rega])
    (refine pc_sheet_Merge (Nat.le_of_ble_eq_true rfl) fun R hG hrd => GO_AR mixed 1000 ?_; subst hG)
    simp -implicitDefEqProofs [rc_sheet_Merge, rr_sheet_Merge, rega]
    rw [rega, rega] at hcl
    (first | refine CallK.of (hcl) (by simp) ?_ | refine CallD.of (hcl) (by simp) ?_)
    simp -implicitDefEqProofs [k0]
  by_cases k1 : clN a b a.length = []
  case neg =>
    refine PC.nzR (v := .tup [.agg [.nils], .int .i64 23]) ?_ (by simp [nz, mgE, k0, k1, rega])
    have ev : clE a b = clN a b a.length := by simp [clE, k0]
    have hl : 0 < (clN a b a.length).length := List.length_pos_iff.2 k1
    (refine pc_sheet_Merge (Nat.le_of_ble_eq_true rfl) fun R hG hrd => GO_AR mixed 1000 ?_; subst hG)
    simp -implicitDefEqProofs [rc_sheet_Merge, rr_sheet_Merge, rega]
    rw [rega, rega, ev] at hcl
    (first | refine CallK.of (hcl) (by simp) ?_ | refine CallD.of (hcl) (by simp) ?_)
    simp -implicitDefEqProofs [k0, hl]
  have ev : clE a b = [] := by simp [clE, k0, k1]
  have oa : openV a = 0 := by
    unfold bothE at k0; split at k0
    · assumption
    · exact k0
  have ob : openV b = 0 := by simpa [bothE, oa] using k0
  have la := open_listed oa
  have lb := open_listed ob
  have sa := listed_60 la
  have sb := listed_60 lb
  have na : a ≠ [] := by rintro rfl; simp at sa
  have nb : b ≠ [] := by rintro rfl; simp at sb
  have hwf := mgL_wf ha hb (by omega) (by omega)
  have hsm := hs k0
  have hin := mg_inj la lb k1
  have hok : ∀ x ∈ a ++ b, okN x := fun x hx => by
    rcases List.mem_append.1 hx with h | h
    · exact listed_okN la x h
    · exact listed_okN lb x h
  have hcc := concat_pc (G := G) a b na nb (by omega) (by omega)
  have hwx : ∀ x ∈ a ++ b, Sml x.its ∧ Sml x.dms := fun x hx => by
    rcases List.mem_append.1 hx with h | h
    · exact ha.1.2 x h
    · exact hb.1.2 x h
  have hll : (a ++ b).length < 20 := by rw [List.length_append]; exact hsm
  have hl0 : 0 < (a ++ b).length := by rw [List.length_append]; omega
  have hsp := sort_few_pb (G := G) (a ++ b) hok hin hll
  have hcp := compact_pb (G := G) (sortN (a ++ b)) (by rw [sortN_len]; omega)
  have hck := checkP_pc hG (mgL a b) hwf
  have hmv : mgE a b = if openV (mgL a b) = 0 then (mgL a b, 0) else ([], openV (mgL a b)) := by simp [mgE, k0, k1]
  have hcm : cmpct (sortN (a ++ b)) = mgL a b := rfl
  have hmn := mgL_len a b
  rw [hmv]
  rw [rega, rega, ev, k0] at hcl
  refine PC.nzR (v := .tup [.agg [if openV (mgL a b) = 0 then .vsl ((mgL a b).map isa) else .nils], .int .i64 (openV (mgL a b))]) ?_ (by by_cases ko : openV (mgL a b) = 0 <;> simp [nz, ko, rega])
  (refine pc_sheet_Merge (Nat.le_of_ble_eq_true rfl) fun R hG hrd => GO_AR mixed 1000 ?_; subst hG)
  simp -implicitDefEqProofs [rc_sheet_Merge, rr_sheet_Merge, rega]
  (first | refine CallK.of (hcl) (by simp) ?_ | refine CallD.of (hcl) (by simp) ?_)
  simp -implicitDefEqProofs []
  unfold ccA at hcc
  generalize a ++ b = l at *
  (first | refine CallK.of (hcc) (by simp) ?_ | refine CallD.of (hcc) (by simp) ?_)
  simp -implicitDefEqProofs []
  refine AR_for (fM l) (fun _ => True) l.length (by simp only [fM]; (first | exact Weak.tm (by simp [lk]) | exact Weak.sub (by simp [lk, keptA, AV.keys]) (by simp [lk, keptO, keptA, AV.keys]))) trivial ?_ ?_
  · intro i hi _
    refine GO_AR mixed 1000 ?_
    have hx := hwx l[i] (List.getElem_mem hi)
    have tk := twR_succ hi
    have ln := twR_len (Nat.le_of_lt hi)
    have cp := copied_pc (G := R.G) l[i] hx.1 hx.2
    have ex : isa l[i] = [.int .i64 l[i].d, .int .i64 l[i].l, .int .u8 l[i].k, .vsl (l[i].its.map ita), .vsl (l[i].dms.map dma)] := rfl
    rw [ex] at cp
    cases i with
    | zero =>
      have w1 : IntKind.i64.wrap 1 = 1 := rfl
      have tk0 : twR l 1 = [[.int .i64 l[0].d, .int .i64 l[0].l, .int .u8 l[0].k, .vsl (l[0].its.map ita), .vsl (l[0].dms.map dma)]] := by rw [tk]; simp [twR]
      simp -implicitDefEqProofs [fM, hi, ex]
      (first | refine CallK.of (cp) (by simp) ?_ | refine CallD.of (cp) (by simp) ?_)
      simp -implicitDefEqProofs [w1, fM]
      refine ⟨rfl, ?_⟩
      exact Weak.sub (by simp [lk, keptA, AV.keys]) (by simp [lk, keptO, keptA, AV.keys, tk0])
    | succ i =>
      have w1 : IntKind.i64.wrap ((i : Int) + 1 + 1) = (i : Int) + 1 + 1 := wrapI (by omega) (by omega)
      have k1 : (i : Int) + 1 < l.length := by omega
      have k2 : ((i : Int) + 1).toNat = i + 1 := by omega
      have k3 : (0 : Int) ≤ (i : Int) + 1 := by omega
      have b2 : (i + 1 + 1) * 72 ≤ 70368744177664 := by omega
      simp -implicitDefEqProofs [fM, hi, k1, k2, k3, ex]
      (first | refine CallK.of (cp) (by simp) ?_ | refine CallD.of (cp) (by simp) ?_)
      simp -implicitDefEqProofs [w1, b2, ln]
      refine ⟨rfl, ?_⟩
      refine Weak.sub (by simp [lk, keptA, AV.keys]) ?_
      simp only [List.mem_cons, List.not_mem_nil, or_false, forall_eq_or_imp, forall_eq, twR_kept, and_true]
      simp [lk, keptO, keptA, AV.keys, tk]
  · intro _
    refine GO_AR mixed 1000 ?_
    obtain ⟨n, hn⟩ : ∃ n, l.length = n + 1 := ⟨l.length - 1, by omega⟩
    have e1 : twR l (n + 1) = l.map isa := by rw [← hn, twR_end]
    have k1 : ¬ (n : Int) + 1 < n + 1 := by omega
    rw [hn]
    rw [hn] at hsp
    simp -implicitDefEqProofs [fM, hn, k1, e1]
    refine GO_ret mixed 1000 ?_
    simp -implicitDefEqProofs []
    refine CallK.sem (CallSem.byref hsp (fun _ => 44) (by simp) (by simp) (by simp [St.get, lk, isa_ren]) (by simp [isa_kept]) (by simp [keptA, AV.keys, lk, fM1]) rfl (by simp [AV.ren, fM1]) rfl rfl) ?_
    simp -implicitDefEqProofs [setsB, isa_ren]
    have ls : (sortN l).length = n + 1 := by rw [sortN_len, hn]
    rw [ls] at hcp
    refine CallK.sem (CallSem.byref hcp (fun _ => 44) (by simp) (by simp) (by simp [St.get, lk, isa_ren]) (by simp [isa_kept]) (by simp [keptA, AV.keys, lk, fM2]) rfl (by simp [AV.ren, fM2]) rfl rfl) ?_
    have hcv : cmpV 1000 (sortN l) = if (mgL a b).length = n + 1 then .osl 1000 (n + 1) else .oss 1000 (n + 1) 0 (mgL a b).length := by rw [cmpV, hcm, ls]
    have hco : cmpO (sortN l) = (mgL a b).map isa ++ List.replicate (n + 1 - (mgL a b).length) zrI := by rw [cmpO, hcm, ls]
    rw [hcv, hco]
    generalize mgL a b = m at *
    by_cases hm : m.length = n + 1
    · have hr : List.replicate (n + 1 - m.length) zrI = [] := by rw [hm, Nat.sub_self]; rfl
      rw [if_pos hm, hr, List.append_nil]
      have pu := isa_pure m
      rw [rega] at hck
      simp -implicitDefEqProofs [setsB, isa_ren, AV.ren]
      refine CallK.flat hck (by simp [AV.flat]) (by simp [pu, hm]) ?_
      by_cases ko : openV m = 0
      · simp -implicitDefEqProofs [ko, pu, hm]
      · simp -implicitDefEqProofs [ko]
    · rw [if_neg hm]
      have hml : m.length ≤ n + 1 := by
        have := kN_len (sortN l) (sortN l).length
        rw [← hcm, ← ls]; exact this
      have hRl : (m.map isa ++ List.replicate (n + 1 - m.length) zrI).length = n + 1 := by simp; omega
      have hRt : (m.map isa ++ List.replicate (n + 1 - m.length) zrI).take m.length = m.map isa := by rw [List.take_left']; simp
      have hRn : AObj.ren (fun _ => 44) (.row 5 (m.map isa ++ List.replicate (n + 1 - m.length) zrI)) = .row 5 (m.map isa ++ List.replicate (n + 1 - m.length) zrI) := by
        have h := isa_ren (fun _ => 44) m
        simp only [AObj.ren, AObj.row.injEq, true_and] at h ⊢
        rw [List.map_append, h]
        simp [zrI, AV.ren]
      generalize m.map isa ++ List.replicate (n + 1 - m.length) zrI = RR at *
      have pu := isa_pure m
      rw [rega] at hck
      simp -implicitDefEqProofs [setsB, hRn, AV.ren]
      refine CallK.flat hck (by simp [AV.flat]) (by simp [pu, hRl, hRt, hml]) ?_
      by_cases ko : openV m = 0
      · simp -implicitDefEqProofs [ko, pu, hRl, hRt, hml]
      · simp -implicitDefEqProofs [ko]
end
end Go.Proofs.YtdpmioiamcgfkaaDoor

/-! The chapter's register, and what is told of it. -/
namespace Go.Proofs.YtdpmioiamcgfkaaDoor
open Go.RowKit

def regL : List Iss := [⟨10, 1, 1, [(20, 2), (30, 1)], []⟩, ⟨10, 2, 1, [(20, 1), (30, 2), (40, 2)], []⟩, ⟨20, 1, 1, [(30, 3), (50, 1)], []⟩,
  ⟨30, 1, 2, [], [⟨150, 100, 200⟩]⟩, ⟨30, 2, 2, [], [⟨150, 120, 200⟩]⟩, ⟨40, 1, 2, [], []⟩, ⟨50, 1, 3, [], []⟩]

theorem reg_nums : nums regL = [10, 20, 30, 40, 50] := by decide
theorem reg_open : openV regL = 0 := by decide +kernel
theorem reg_expl : exV regL [1, 1, 1, 1, 1] 10 = ([(30, 7), (50, 2)], 0) := by decide +kernel
theorem reg_uses : useE regL 30 = ([(10, 1), (10, 2), (20, 1)], 0) := by decide +kernel
theorem reg_above : abE regL [2, 1, 1, 1, 1] 40 = ([10], 0) := by decide +kernel
theorem reg_differ : difE regL 10 1 2 = ([⟨20, 2, 1⟩, ⟨30, 1, 2⟩, ⟨40, 0, 2⟩], [], 0) := by decide +kernel
theorem reg_last : cntV regL 30 = 2 := by decide +kernel
theorem reg_depth : dpG (dRun regL (nums regL).length).1 10 = 3 := by decide +kernel
theorem reg_wf : Wf regL := by
  refine ⟨⟨by unfold Sml; decide, ?_⟩, by decide⟩
  unfold Sml; decide
theorem reg_tree : trE regL [1, 1, 2, 1, 1] 10 = ([⟨0, 10, 1, 1⟩, ⟨1, 20, 1, 2⟩, ⟨2, 30, 2, 3⟩, ⟨2, 50, 1, 1⟩, ⟨1, 30, 2, 1⟩], 0) := by decide +kernel
def regD : List Iss := [⟨10, 1, 1, [(20, 2), (30, 1)], []⟩, ⟨10, 1, 1, [(20, 2), (30, 1)], []⟩, ⟨10, 2, 1, [(20, 1), (30, 2), (40, 2)], []⟩, ⟨10, 2, 1, [(20, 1), (30, 2), (40, 2)], []⟩, ⟨20, 1, 1, [(30, 3), (50, 1)], []⟩, ⟨20, 1, 1, [(30, 3), (50, 1)], []⟩,
  ⟨30, 1, 2, [], [⟨150, 100, 200⟩]⟩, ⟨30, 1, 2, [], [⟨150, 100, 200⟩]⟩, ⟨30, 2, 2, [], [⟨150, 120, 200⟩]⟩, ⟨30, 2, 2, [], [⟨150, 120, 200⟩]⟩, ⟨40, 1, 2, [], []⟩, ⟨40, 1, 2, [], []⟩, ⟨50, 1, 3, [], []⟩, ⟨50, 1, 3, [], []⟩]
theorem reg_clash : clN regL regL regL.length = [] := by decide +kernel
theorem reg_sort : sortN (regL ++ regL) = regD := by
  have hL := open_listed reg_open
  refine sortN_eq (mg_inj hL hL reg_clash) (by decide +kernel) ?_
  unfold SrtN
  decide +kernel
theorem reg_merge : mgE regL regL = (regL, 0) := by
  have e : mgL regL regL = regL := by
    rw [mgL, reg_sort]
    decide +kernel
  simp [mgE, bothE, reg_open, reg_clash, e]
theorem reg_at : findN 30 2 regL = some ⟨30, 2, 2, [], [⟨150, 120, 200⟩]⟩ := by decide +kernel

section
variable {G : Nat → Option (List AV)}

theorem itemL_pc (d c : Int) : PC Tryd.prog G 58 [.int .i64 d, .int .i64 c] (.agg [.int .i64 d, .int .i64 c]) := by
  (refine pc_law02_item (Nat.le_of_ble_eq_true rfl) fun R hG hrd => GO_AR mixed 1000 ?_; subst hG)
  simp -implicitDefEqProofs [rc_law02_item, rr_law02_item]
theorem assembly_pc (d l : Int) (its : List (Int × Int)) : PC Tryd.prog G 99 [.int .i64 d, .int .i64 l, .vsl (its.map ita)] (.agg (isa ⟨d, l, 1, its, []⟩)) := by
  refine PC.nzR (v := .agg [.int .i64 d, .int .i64 l, .int .u8 1, .vsl (its.map ita), .nils]) ?_ (by simp [nz, isa])
  (refine pc_law02_assembly (Nat.le_of_ble_eq_true rfl) fun R hG hrd => GO_AR mixed 1000 ?_; subst hG)
  simp -implicitDefEqProofs [rc_law02_assembly, rr_law02_assembly]
theorem part_pc (d l k : Int) (dms : List Dm) : PC Tryd.prog G 100 [.int .i64 d, .int .i64 l, .int .u8 k, .vsl (dms.map dma)] (.agg (isa ⟨d, l, k, [], dms⟩)) := by
  refine PC.nzR (v := .agg [.int .i64 d, .int .i64 l, .int .u8 k, .nils, .vsl (dms.map dma)]) ?_ (by simp [nz, isa])
  (refine pc_law02_part (Nat.le_of_ble_eq_true rfl) fun R hG hrd => GO_AR mixed 1000 ?_; subst hG)
  simp -implicitDefEqProofs [rc_law02_part, rr_law02_part]
theorem part0_pc (d l k : Int) : PC Tryd.prog G 100 [.int .i64 d, .int .i64 l, .int .u8 k, .nils] (.agg (isa ⟨d, l, k, [], []⟩)) := by
  refine PC.nzR (v := .agg [.int .i64 d, .int .i64 l, .int .u8 k, .nils, .nils]) ?_ (by simp [nz, isa])
  (refine pc_law02_part (Nat.le_of_ble_eq_true rfl) fun R hG hrd => GO_AR mixed 1000 ?_; subst hG)
  simp -implicitDefEqProofs [rc_law02_part, rr_law02_part]
theorem first_pc : PC Tryd.prog G 65 [] (.vsl (([1, 1, 1, 1, 1] : List Int).map ia)) := by
  (refine pc_law02_first (Nat.le_of_ble_eq_true rfl) fun R hG hrd => GO_AR mixed 1000 ?_; subst hG)
  simp -implicitDefEqProofs [rc_law02_first, rr_law02_first, ia]
  rfl
theorem second_pc : PC Tryd.prog G 64 [] (.vsl (([2, 1, 1, 1, 1] : List Int).map ia)) := by
  (refine pc_law02_second (Nat.le_of_ble_eq_true rfl) fun R hG hrd => GO_AR mixed 1000 ?_; subst hG)
  simp -implicitDefEqProofs [rc_law02_second, rr_law02_second, ia]
  rfl
theorem register_pc : PC Tryd.prog G 63 [] (rega regL) := by
  (refine pc_law02_register (Nat.le_of_ble_eq_true rfl) fun R hG hrd => GO_AR mixed 1000 ?_; subst hG)
  simp -implicitDefEqProofs [rc_law02_register, rr_law02_register]
  (first | refine CallK.of (itemL_pc 20 2) (by simp) ?_ | refine CallD.of (itemL_pc 20 2) (by simp) ?_)
  simp -implicitDefEqProofs []
  (first | refine CallK.of (itemL_pc 30 1) (by simp) ?_ | refine CallD.of (itemL_pc 30 1) (by simp) ?_)
  simp -implicitDefEqProofs []
  (first | refine CallK.of (assembly_pc 10 1 [(20, 2), (30, 1)]) (by simp) ?_ | refine CallD.of (assembly_pc 10 1 [(20, 2), (30, 1)]) (by simp) ?_)
  simp -implicitDefEqProofs [isa]
  (first | refine CallK.of (itemL_pc 20 1) (by simp) ?_ | refine CallD.of (itemL_pc 20 1) (by simp) ?_)
  simp -implicitDefEqProofs []
  (first | refine CallK.of (itemL_pc 30 2) (by simp) ?_ | refine CallD.of (itemL_pc 30 2) (by simp) ?_)
  simp -implicitDefEqProofs []
  (first | refine CallK.of (itemL_pc 40 2) (by simp) ?_ | refine CallD.of (itemL_pc 40 2) (by simp) ?_)
  simp -implicitDefEqProofs []
  (first | refine CallK.of (assembly_pc 10 2 [(20, 1), (30, 2), (40, 2)]) (by simp) ?_ | refine CallD.of (assembly_pc 10 2 [(20, 1), (30, 2), (40, 2)]) (by simp) ?_)
  simp -implicitDefEqProofs [isa]
  (first | refine CallK.of (itemL_pc 30 3) (by simp) ?_ | refine CallD.of (itemL_pc 30 3) (by simp) ?_)
  simp -implicitDefEqProofs []
  (first | refine CallK.of (itemL_pc 50 1) (by simp) ?_ | refine CallD.of (itemL_pc 50 1) (by simp) ?_)
  simp -implicitDefEqProofs []
  (first | refine CallK.of (assembly_pc 20 1 [(30, 3), (50, 1)]) (by simp) ?_ | refine CallD.of (assembly_pc 20 1 [(30, 3), (50, 1)]) (by simp) ?_)
  simp -implicitDefEqProofs [isa]
  (first | refine CallK.of (part_pc 30 1 2 [⟨150, 100, 200⟩]) (by simp) ?_ | refine CallD.of (part_pc 30 1 2 [⟨150, 100, 200⟩]) (by simp) ?_)
  simp -implicitDefEqProofs [isa]
  (first | refine CallK.of (part_pc 30 2 2 [⟨150, 120, 200⟩]) (by simp) ?_ | refine CallD.of (part_pc 30 2 2 [⟨150, 120, 200⟩]) (by simp) ?_)
  simp -implicitDefEqProofs [isa]
  (first | refine CallK.of (part0_pc 40 1 2) (by simp) ?_ | refine CallD.of (part0_pc 40 1 2) (by simp) ?_)
  simp -implicitDefEqProofs [isa]
  (first | refine CallK.of (part0_pc 50 1 3) (by simp) ?_ | refine CallD.of (part0_pc 50 1 3) (by simp) ?_)
  simp -implicitDefEqProofs [isa, rega, regL, ita, dma]
  rfl
end
end Go.Proofs.YtdpmioiamcgfkaaDoor

/-! At as a tree; the chapter's examples. -/
namespace Go.Proofs.YtdpmioiamcgfkaaDoor
open Go.RowKit
section
variable {G : Nat → Option (List AV)}

theorem at_pc (hG : GC G) (r : List Iss) (d l : Int) (h : Wf r) : PC Tryd.prog G 27 [rega r, .agg [.int .i64 d, .int .i64 l]] (.tup [.agg (isa (atP r d l).1), .int .i64 (atP r d l).2]) := by
  by_cases e : openV r = 0
  case neg =>
    refine PC.nzR (v := .tup [.agg [.int .i64 0, .int .i64 0, .int .u8 0, .nils, .nils], .int .i64 (openV r)]) ?_ (by simp [nz, atP, e, zI, isa])
    (refine pc_sheet_At (Nat.le_of_ble_eq_true rfl) fun R hG hrd => GO_AR mixed 1000 ?_; subst hG)
    simp -implicitDefEqProofs [rc_sheet_At, rr_sheet_At, rega]
    (first | refine CallK.of (open_pc hG r h) (by simp) ?_ | refine CallD.of (open_pc hG r h) (by simp) ?_)
    simp -implicitDefEqProofs [openA, e]
  have hL := open_listed e
  have hO := ord_of hL
  cases hf : findN d l r with
  | none =>
    refine PC.nzR (v := .tup [.agg [.int .i64 0, .int .i64 0, .int .u8 0, .nils, .nils], .int .i64 6]) ?_ (by simp [nz, atP, e, hf, zI, isa])
    (refine pc_sheet_At (Nat.le_of_ble_eq_true rfl) fun R hG hrd => GO_AR mixed 1000 ?_; subst hG)
    simp -implicitDefEqProofs [rc_sheet_At, rr_sheet_At, rega]
    (first | refine CallK.of (open_pc hG r h) (by simp) ?_ | refine CallD.of (open_pc hG r h) (by simp) ?_)
    simp -implicitDefEqProofs [openA, e]
    (first | refine CallK.of (find_pcS r (nums r) d l (ord_map hO) h.1.1 (find_own hL)) (by simp) ?_ | refine CallD.of (find_pcS r (nums r) d l (ord_map hO) h.1.1 (find_own hL)) (by simp) ?_)
    simp -implicitDefEqProofs [hf, fndA, noIs]
  | some x =>
    have ev : atP r d l = (x, 0) := by simp [atP, e, hf]
    have hx := h.1.2 x (findN_mem hf).1
    have ex : isa x = [.int .i64 x.d, .int .i64 x.l, .int .u8 x.k, .vsl (x.its.map ita), .vsl (x.dms.map dma)] := rfl
    have cp := copied_pc (G := G) x hx.1 hx.2
    rw [ev]
    rw [ex] at cp
    (refine pc_sheet_At (Nat.le_of_ble_eq_true rfl) fun R hG hrd => GO_AR mixed 1000 ?_; subst hG)
    simp -implicitDefEqProofs [rc_sheet_At, rr_sheet_At, rega]
    (first | refine CallK.of (open_pc hG r h) (by simp) ?_ | refine CallD.of (open_pc hG r h) (by simp) ?_)
    simp -implicitDefEqProofs [openA, e]
    (first | refine CallK.of (find_pcS r (nums r) d l (ord_map hO) h.1.1 (find_own hL)) (by simp) ?_ | refine CallD.of (find_pcS r (nums r) d l (ord_map hO) h.1.1 (find_own hL)) (by simp) ?_)
    simp -implicitDefEqProofs [hf, fndA, ex]
    (first | refine CallK.of (cp) (by simp) ?_ | refine CallD.of (cp) (by simp) ?_)
    simp -implicitDefEqProofs [ex]

attribute [local simp] rega_pure
set_option maxRecDepth 100000 in
set_option maxHeartbeats 4000000 in
theorem alive_pc (hG : GC G) : PC Tryd.prog G 51 [] (.bool true) := by
  have hM := merge_few_pc hG regL regL reg_wf reg_wf (fun _ => by decide)
  rw [reg_merge] at hM
  have hA := at_pc hG regL 30 2 reg_wf
  have eA : atP regL 30 2 = (⟨30, 2, 2, [], [⟨150, 120, 200⟩]⟩, 0) := by simp [atP, reg_open, reg_at]
  rw [eA] at hA
  have k10 : knV regL 10 = 0 := by decide +kernel
  have k30 : knV regL 30 = 0 := by decide +kernel
  have hD := drawP_pc hG regL reg_wf
  rw [reg_open, if_pos rfl, reg_nums] at hD
  have hE := explP_pc hG regL [1, 1, 1, 1, 1] 10 reg_wf
  rw [reg_expl] at hE
  have hT := treeP_pc hG regL [1, 1, 2, 1, 1] 10 reg_wf
  rw [reg_tree] at hT
  have hU := usesP_pc hG regL 30 reg_wf
  rw [reg_uses] at hU
  have hB := aboveP_pc hG regL [2, 1, 1, 1, 1] 40 reg_wf
  rw [reg_above] at hB
  have hF := differP_pc hG regL 10 1 2 reg_wf
  rw [reg_differ] at hF
  have hP := depthP_pc hG regL 10 reg_wf
  rw [k10, if_pos rfl, reg_depth] at hP
  have hL := lastP_pc hG regL 30 reg_wf
  rw [k30, if_pos rfl, reg_last] at hL
  have r5 : List.range 5 = [0, 1, 2, 3, 4] := rfl
  have hR := register_pc (G := G)
  have hR1 := first_pc (G := G)
  have hR2 := second_pc (G := G)
  simp only [List.map_cons, List.map_nil, ia, ita, bra, dma] at hD hE hT hU hB hF hR1 hR2
  (refine pc_law02_alive (Nat.le_of_ble_eq_true rfl) fun R hG hrd => GO_AR mixed 1000 ?_; subst hG)
  simp -implicitDefEqProofs [rc_law02_alive, rr_law02_alive]
  (first | refine CallK.of (hR) (by simp) ?_ | refine CallD.of (hR) (by simp) ?_)
  simp -implicitDefEqProofs []
  (first | refine CallK.of (hD) (by simp) ?_ | refine CallD.of (hD) (by simp) ?_)
  simp -implicitDefEqProofs []
  (first | refine CallK.of (hR) (by simp) ?_ | refine CallD.of (hR) (by simp) ?_)
  simp -implicitDefEqProofs []
  (first | refine CallK.of (hR1) (by simp) ?_ | refine CallD.of (hR1) (by simp) ?_)
  simp -implicitDefEqProofs []
  (first | refine CallK.of (hE) (by simp) ?_ | refine CallD.of (hE) (by simp) ?_)
  simp -implicitDefEqProofs []
  (first | refine CallK.of (hR) (by simp) ?_ | refine CallD.of (hR) (by simp) ?_)
  simp -implicitDefEqProofs [r5]
  (first | refine CallK.of (hT) (by simp) ?_ | refine CallD.of (hT) (by simp) ?_)
  simp -implicitDefEqProofs []
  (first | refine CallK.of (hR) (by simp) ?_ | refine CallD.of (hR) (by simp) ?_)
  simp -implicitDefEqProofs []
  (first | refine CallK.of (hU) (by simp) ?_ | refine CallD.of (hU) (by simp) ?_)
  simp -implicitDefEqProofs []
  (first | refine CallK.of (hR) (by simp) ?_ | refine CallD.of (hR) (by simp) ?_)
  simp -implicitDefEqProofs []
  (first | refine CallK.of (hR2) (by simp) ?_ | refine CallD.of (hR2) (by simp) ?_)
  simp -implicitDefEqProofs []
  (first | refine CallK.of (hB) (by simp) ?_ | refine CallD.of (hB) (by simp) ?_)
  simp -implicitDefEqProofs []
  (first | refine CallK.of (hR) (by simp) ?_ | refine CallD.of (hR) (by simp) ?_)
  simp -implicitDefEqProofs []
  (first | refine CallK.of (hF) (by simp) ?_ | refine CallD.of (hF) (by simp) ?_)
  simp -implicitDefEqProofs []
  (first | refine CallK.of (hR) (by simp) ?_ | refine CallD.of (hR) (by simp) ?_)
  simp -implicitDefEqProofs []
  (first | refine CallK.of (hP) (by simp) ?_ | refine CallD.of (hP) (by simp) ?_)
  simp -implicitDefEqProofs []
  (first | refine CallK.of (hR) (by simp) ?_ | refine CallD.of (hR) (by simp) ?_)
  simp -implicitDefEqProofs []
  (first | refine CallK.of (hL) (by simp) ?_ | refine CallD.of (hL) (by simp) ?_)
  simp -implicitDefEqProofs []
  (first | refine CallK.of (hR) (by simp) ?_ | refine CallD.of (hR) (by simp) ?_)
  simp -implicitDefEqProofs []
  (first | refine CallK.of (hA) (by simp) ?_ | refine CallD.of (hA) (by simp) ?_)
  simp -implicitDefEqProofs [isa, dma]
  (first | refine CallK.of (hR) (by simp) ?_ | refine CallD.of (hR) (by simp) ?_)
  simp -implicitDefEqProofs []
  (first | refine CallK.of (hR) (by simp) ?_ | refine CallD.of (hR) (by simp) ?_)
  simp -implicitDefEqProofs []
  simp only [rega] at hM
  (first | refine CallK.of (hM) (by simp) ?_ | refine CallD.of (hM) (by simp) ?_)
  have hI := sameInts_pc (G := R.G) [10, 20, 30, 40, 50] [10, 20, 30, 40, 50] (by unfold Sml; decide)
  have hI1 := sameInts_pc (G := R.G) [10] [10] (by unfold Sml; decide)
  have hIt := sameItems_pc (G := R.G) [(30, 7), (50, 2)] [(30, 7), (50, 2)] (by unfold Sml; decide)
  have hBr := sameBr_pc (G := R.G) [⟨0, 10, 1, 1⟩, ⟨1, 20, 1, 2⟩, ⟨2, 30, 2, 3⟩, ⟨2, 50, 1, 1⟩, ⟨1, 30, 2, 1⟩] [⟨0, 10, 1, 1⟩, ⟨1, 20, 1, 2⟩, ⟨2, 30, 2, 3⟩, ⟨2, 50, 1, 1⟩, ⟨1, 30, 2, 1⟩] (by unfold Sml; decide)
  have hRf := sameRefs_pc (G := R.G) [(10, 1), (10, 2), (20, 1)] [(10, 1), (10, 2), (20, 1)] (by unfold Sml; decide)
  have hCh := sameChg_pc (G := R.G) [⟨20, 2, 1⟩, ⟨30, 1, 2⟩, ⟨40, 0, 2⟩] [⟨20, 2, 1⟩, ⟨30, 1, 2⟩, ⟨40, 0, 2⟩] (by unfold Sml; decide)
  have hSi := sameIssue_pc (G := R.G) ⟨30, 2, 2, [], [⟨150, 120, 200⟩]⟩ ⟨30, 2, 2, [], [⟨150, 120, 200⟩]⟩ (by unfold Sml; decide) (by unfold Sml; decide)
  have hSm := same_pc (G := R.G) regL regL reg_wf.1
  rw [decide_eq_true rfl] at hI hI1 hIt hBr hRf hCh hSi hSm
  simp only [List.map_cons, List.map_nil, ia, ita, bra, dma, isa] at hI hI1 hIt hBr hRf hCh hSi
  simp -implicitDefEqProofs [r5]
  (first | refine CallK.of (hI) (by simp) ?_ | refine CallD.of (hI) (by simp) ?_)
  simp -implicitDefEqProofs []
  (first | refine CallK.of (itemL_pc 30 7) (by simp) ?_ | refine CallD.of (itemL_pc 30 7) (by simp) ?_)
  simp -implicitDefEqProofs []
  (first | refine CallK.of (itemL_pc 50 2) (by simp) ?_ | refine CallD.of (itemL_pc 50 2) (by simp) ?_)
  simp -implicitDefEqProofs []
  (first | refine CallK.of (hIt) (by simp) ?_ | refine CallD.of (hIt) (by simp) ?_)
  simp -implicitDefEqProofs []
  (first | refine CallK.of (hBr) (by simp) ?_ | refine CallD.of (hBr) (by simp) ?_)
  simp -implicitDefEqProofs []
  (first | refine CallK.of (hRf) (by simp) ?_ | refine CallD.of (hRf) (by simp) ?_)
  simp -implicitDefEqProofs []
  (first | refine CallK.of (hI1) (by simp) ?_ | refine CallD.of (hI1) (by simp) ?_)
  simp -implicitDefEqProofs []
  (first | refine CallK.of (hCh) (by simp) ?_ | refine CallD.of (hCh) (by simp) ?_)
  simp -implicitDefEqProofs []
  (first | refine CallK.of (hR) (by simp) ?_ | refine CallD.of (hR) (by simp) ?_)
  have e0 : rega regL = .agg [.vsl (regL.map isa)] := rfl
  have gl : regL.length = 7 := rfl
  have g4 : regL[4]? = some ⟨30, 2, 2, [], [⟨150, 120, 200⟩]⟩ := rfl
  have g4' : ∀ h : 4 < regL.length, regL[4]'h = ⟨30, 2, 2, [], [⟨150, 120, 200⟩]⟩ := fun _ => rfl
  simp -implicitDefEqProofs [e0, gl, g4, g4', isa, dma]
  (first | refine CallK.of (hSi) (by simp) ?_ | refine CallD.of (hSi) (by simp) ?_)
  simp -implicitDefEqProofs []
  (first | refine CallK.of (hR) (by simp) ?_ | refine CallD.of (hR) (by simp) ?_)
  rw [e0] at hSm ⊢
  simp -implicitDefEqProofs []
  refine CallD.of hSm (by simp [AV.pure, isa]) ?_
  simp -implicitDefEqProofs []
  exact rfl
end
end Go.Proofs.YtdpmioiamcgfkaaDoor

/-! Lists of numbers that came in. -/
namespace Go.Proofs.YtdpmioiamcgfkaaDoor
open Go.RowKit

end Go.Proofs.YtdpmioiamcgfkaaDoor

/-! What the outright laws choose: letters, drawings. -/
namespace Go.Proofs.YtdpmioiamcgfkaaDoor
open Go.RowKit

theorem last_bd {r : List Iss} (hL : listedB r = true) {n : Int} (hn : n ∈ nums r) : 1 ≤ lastV r n ∧ lastV r n ≤ 8 := by
  obtain ⟨i, hi, e⟩ := nums_of (ord_of hL) hn
  have hm := List.getElem_mem hi
  have hf := find_mem hL hm
  have h1 : inR r[i].l 1 (lastV r n) = true := (find_iff hL n r[i].l).1 (by rw [← e, hf]; rfl)
  have h2 := of_decide_eq_true h1
  refine ⟨by omega, ?_⟩
  have h3 : (findN n (lastV r n) r).isSome = true := (find_iff hL n (lastV r n)).2 (decide_eq_true (by omega))
  obtain ⟨x, hx⟩ := Option.isSome_iff_exists.1 h3
  have h4 := findN_mem hx
  have h5 := listed_okN hL x h4.1
  have := h5.2.2.2
  omega
theorem tmod_bd {a b : Int} (h0 : 0 ≤ a) (h1 : 1 ≤ b) : 0 ≤ a.tmod b ∧ a.tmod b < b := ⟨Int.tmod_nonneg b h0, Int.tmod_lt_of_pos a (by omega)⟩
def readyB (r : List Iss) : Bool := !greatB r && decide (chkV r = 0)
theorem ready_ok {r : List Iss} (h : readyB r = true) (hk : ∀ x ∈ r, KOk x) : Wf r ∧ openV r = 0 := by
  simp only [readyB, Bool.and_eq_true, Bool.not_eq_true', decide_eq_true_eq] at h
  exact ⟨great_wf h.1 hk, by rw [open_chk]; exact h.2⟩
theorem nums_ne {r : List Iss} (hL : listedB r = true) : nums r ≠ [] := by
  have h := listed_60 hL
  have := nums_mem (ord_of hL) (show 0 < r.length by omega)
  intro e; rw [e] at this; cases this
/-- The drawing of a number. -/
def drV (r : List Iss) (n : Int) : Int := (nums r).getD (n.tmod (nums r).length).toNat 0
theorem drV_mem {r : List Iss} (hL : listedB r = true) {n : Int} (h0 : 0 ≤ n) : drV r n ∈ nums r := by
  have hl : 0 < (nums r).length := List.length_pos_iff.2 (nums_ne hL)
  have h1 := tmod_bd (b := (nums r).length) h0 (by omega)
  have hi : (n.tmod (nums r).length).toNat < (nums r).length := by omega
  rw [drV, List.getD_eq_getElem?_getD, List.getElem?_eq_getElem hi]
  exact List.getElem_mem hi
section
variable {G : Nat → Option (List AV)}

theorem ready_pc (r : List Iss) (hk : ∀ x ∈ r, KOk x) : PC Tryd.prog G 52 [rega r] (.bool (readyB r)) := by
  have hg := greatA_pc (G := G) r
  have hc := fun h => checkR_pc (G := G) r (great_wf h hk)
  rw [rega] at hg hc
  (refine pc_law02_ready (Nat.le_of_ble_eq_true rfl) fun R hG hrd => GO_AR mixed 1000 ?_; subst hG)
  simp -implicitDefEqProofs [rc_law02_ready, rr_law02_ready, rega]
  (first | refine CallK.of (hg) (by simp) ?_ | refine CallD.of (hg) (by simp) ?_)
  cases g : greatB r
  · simp -implicitDefEqProofs []
    (first | refine CallK.of (hc g) (by simp) ?_ | refine CallD.of (hc g) (by simp) ?_)
    simp -implicitDefEqProofs [readyB, g]
  · simp -implicitDefEqProofs [readyB, g]

theorem hasL_pc (l : List Int) (n : Int) (h : Sml l) : PC Tryd.prog G 57 [.vsl (l.map ia), .int .i64 n] (.bool (decide (n ∈ l))) := by
  (refine pc_law02_has (Nat.le_of_ble_eq_true rfl) fun R hG hrd => GO_AR mixed 1000 ?_; subst hG)
  simp -implicitDefEqProofs [rc_law02_has, rr_law02_has]
  (first | refine CallK.of (index_pc l n h) (by simp) ?_ | refine CallD.of (index_pc l n h) (by simp) ?_)
  have e : decide (0 ≤ idx l n) = decide (n ∈ l) := by
    have := idx_neg (l := l) (n := n)
    by_cases h : n ∈ l
    · rw [decide_eq_true h, decide_eq_true]; have : ¬ idx l n < 0 := fun h2 => (this.1 h2) h
      omega
    · rw [decide_eq_false h, decide_eq_false]; have := this.2 h
      omega
  simp -implicitDefEqProofs [e]

theorem drawing_pc (r : List Iss) (n : Int) (h : Wf r) (hL : listedB r = true) (h0 : 0 ≤ n) (h1 : n ≤ 255) : PC Tryd.prog G 54 [rega r, .int .u8 n] (.int .i64 (drV r n)) := by
  have hne : r ≠ [] := by rintro rfl; have := listed_60 hL; simp at this
  have hl : 0 < (nums r).length := List.length_pos_iff.2 (nums_ne hL)
  have hn := numbers_pc (G := G) r h.1.1 hne
  rw [rega] at hn
  have b1 := tmod_bd (b := (nums r).length) h0 (by omega)
  have hi : (n.tmod (nums r).length).toNat < (nums r).length := by omega
  have k0 : ¬ ((nums r).length : Int) = 0 := by omega
  have k0' : ¬ (nums r).length = 0 := by omega
  have w1 : IntKind.i64.wrap n = n := wrapI (by omega) (by omega)
  have ev : drV r n = (nums r)[(n.tmod (nums r).length).toNat] := by rw [drV, List.getD_eq_getElem?_getD, List.getElem?_eq_getElem hi]; rfl
  (refine pc_law02_drawing (Nat.le_of_ble_eq_true rfl) fun R hG hrd => GO_AR mixed 1000 ?_; subst hG)
  simp -implicitDefEqProofs [rc_law02_drawing, rr_law02_drawing, rega]
  (first | refine CallK.of (hn) (by simp) ?_ | refine CallD.of (hn) (by simp) ?_)
  simp -implicitDefEqProofs [w1, k0, k0', b1.1, hi, ia, ev]

end
end Go.Proofs.YtdpmioiamcgfkaaDoor

/-! Another letter of a drawing: plain. -/
namespace Go.Proofs.YtdpmioiamcgfkaaDoor
open Go.RowKit

end Go.Proofs.YtdpmioiamcgfkaaDoor

/-! The law SheetLetter, by the abstract machine. -/
namespace Go.Proofs.YtdpmioiamcgfkaaDoor
open Go.RowKit
section
variable {G : Nat → Option (List AV)}

end
end Go.Proofs.YtdpmioiamcgfkaaDoor

/-! Changes that turn one issue into another: plain. -/
namespace Go.Proofs.YtdpmioiamcgfkaaDoor
open Go.RowKit

def mpDel (n : Int) : List (Int × Int) → List (Int × Int)
  | [] => []
  | p :: l => if n = p.1 then l else p :: mpDel n l
theorem find_del (n : Int) : ∀ l : List (Int × Int), ∃ o : Option Nat, (KK.i .i64).find (.int .i64 n) (dpA l) = some o ∧ match o with
    | some j => j < l.length ∧ mpDel n l = l.eraseIdx j
    | none => mpDel n l = l
  | [] => ⟨none, rfl, rfl⟩
  | p :: r => by
    obtain ⟨o, h1, h2⟩ := find_del n r
    by_cases e : n = p.1
    · exact ⟨some 0, by simp [dpA, KK.find, KK.eq, e], by simp, by simp [mpDel, e]⟩
    · refine ⟨o.map (· + 1), ?_, ?_⟩
      · simp only [dpA, List.map_cons, KK.find, KK.eq, and_self, if_true, e, decide_false]
        rw [show r.map (fun p => (AV.int .i64 p.1, AV.int .i64 p.2)) = dpA r from rfl, h1]; rfl
      · cases o with
        | none => simp only [Option.map_none, mpDel, if_neg e, h2]
        | some j => exact ⟨by simp only [List.length_cons]; omega, by simp only [mpDel, if_neg e, h2.2]; rfl⟩
theorem del_ct (n : Int) (l : List (Int × Int)) : (KK.i .i64).del (.int .i64 n) (dpA l) = some (dpA (mpDel n l)) := by
  obtain ⟨o, h1, h2⟩ := find_del n l
  have hi : (KK.i .i64).is (.int .i64 n) = true := by simp [KK.is]
  unfold KK.del
  rw [if_pos hi, h1]
  cases o with
  | none => simp only [h2]
  | some j => rw [h2.2]; simp [dpA, List.eraseIdx_eq_take_drop_succ]
theorem dpLk_none {n : Int} : ∀ {l : List (Int × Int)}, n ∉ l.map (·.1) → dpLk n l = none
  | [], _ => rfl
  | p :: l, h => by
    simp only [List.map_cons, List.mem_cons, not_or] at h
    simp only [dpLk, if_neg h.1, dpLk_none h.2]
theorem dpLk_key {n : Int} : ∀ {l : List (Int × Int)}, n ∈ l.map (·.1) ↔ dpLk n l ≠ none
  | [] => by simp [dpLk]
  | p :: l => by
    simp only [List.map_cons, List.mem_cons, dpLk]
    by_cases e : n = p.1
    · simp [e]
    · simp only [e, false_or, if_false]; exact dpLk_key
theorem dpLk_put (n v : Int) : ∀ (l : List (Int × Int)) (x : Int), dpLk x (mpPut n v l) = if x = n then some v else dpLk x l
  | [], x => by simp [mpPut, dpLk]
  | p :: l, x => by
    have ih := dpLk_put n v l x
    simp only [mpPut]
    by_cases e : p.1 = n
    · rw [if_pos e]
      simp only [dpLk]
      by_cases e2 : x = n
      · rw [if_pos e2, if_pos e2]
      · rw [if_neg e2, if_neg e2, if_neg (by rw [e]; exact e2)]
    · rw [if_neg e]
      simp only [dpLk]
      by_cases e2 : x = p.1
      · rw [if_pos e2, if_pos e2, if_neg (by rintro rfl; exact e e2.symm)]
      · rw [if_neg e2, if_neg e2]; exact ih
theorem put_keys (n v : Int) : ∀ (l : List (Int × Int)), (mpPut n v l).map (·.1) = if n ∈ l.map (·.1) then l.map (·.1) else l.map (·.1) ++ [n]
  | [] => by simp [mpPut]
  | p :: l => by
    have ih := put_keys n v l
    simp only [mpPut]
    by_cases e : p.1 = n
    · rw [if_pos e]; simp [e]
    · have e' : ¬ n = p.1 := fun h => e h.symm
      rw [if_neg e, List.map_cons, ih]
      simp only [List.map_cons, List.mem_cons, e', false_or]
      split <;> simp
theorem put_nodup {n v : Int} {l : List (Int × Int)} (h : (l.map (·.1)).Nodup) : ((mpPut n v l).map (·.1)).Nodup := by
  rw [put_keys]
  split
  · exact h
  · rename_i hn
    exact List.nodup_append.2 ⟨h, by simp, fun a ha b hb => by rw [List.mem_singleton] at hb; subst hb; exact fun e => hn (e ▸ ha)⟩
theorem del_sub (n : Int) : ∀ (l : List (Int × Int)), (mpDel n l).Sublist l
  | [] => List.Sublist.refl _
  | p :: l => by
    simp only [mpDel]
    split
    · exact List.sublist_cons_self _ _
    · exact (del_sub n l).cons_cons _
theorem dpLk_del {n : Int} : ∀ {l : List (Int × Int)} (_ : (l.map (·.1)).Nodup) (x : Int), dpLk x (mpDel n l) = if x = n then none else dpLk x l
  | [], _, x => by simp [mpDel, dpLk]
  | p :: l, h, x => by
    simp only [List.map_cons, List.nodup_cons] at h
    simp only [mpDel]
    by_cases e : n = p.1
    · rw [if_pos e]
      by_cases e2 : x = n
      · rw [if_pos e2, e2, e]; exact dpLk_none h.1
      · rw [if_neg e2]
        simp only [dpLk]
        rw [if_neg (by rw [← e]; exact e2)]
    · rw [if_neg e]
      simp only [dpLk]
      by_cases e2 : x = p.1
      · rw [if_pos e2, if_pos e2, if_neg (by rintro rfl; exact e e2)]
      · rw [if_neg e2, if_neg e2]; exact dpLk_del h.2 x
/-- A list that holds just the counts that are not 0. -/
def Good (m : List (Int × Int)) (h : Int → Int) : Prop := (m.map (·.1)).Nodup ∧ ∀ x, dpLk x m = if h x = 0 then none else some (h x)
theorem Good.get {m : List (Int × Int)} {h : Int → Int} (g : Good m h) (x : Int) : (dpLk x m).getD 0 = h x := by
  rw [g.2 x]; split
  · rename_i e; rw [e]; rfl
  · rfl
theorem Good.len {m l : List (Int × Int)} {h : Int → Int} (g : Good m h) (g2 : Good l h) : m.length = l.length := by
  have key : ∀ {a b : List (Int × Int)}, Good a h → Good b h → a.length ≤ b.length := fun {a b} ga gb => by
    have := List.Nodup.length_le_of_subset ga.1 (l₂ := b.map (·.1)) fun x hx => by
      rw [dpLk_key, gb.2 x, ← ga.2 x, ← dpLk_key]; exact hx
    simpa using this
  exact Nat.le_antisymm (key g g2) (key g2 g)
def stT (g : Int → Int) (m : List (Int × Int)) (n : Int) : List (Int × Int) := if g n = 0 then mpDel n (mpPut n (g n) m) else mpPut n (g n) m
theorem Good.stT {m : List (Int × Int)} {h g : Int → Int} (gd : Good m h) (n : Int) : Good (stT g m n) (fun x => if x = n then g x else h x) := by
  unfold Go.Proofs.YtdpmioiamcgfkaaDoor.stT
  by_cases e : g n = 0
  · rw [if_pos e]
    refine ⟨((del_sub _ _).map _).nodup (put_nodup gd.1), fun x => ?_⟩
    rw [dpLk_del (put_nodup gd.1), dpLk_put]
    by_cases e2 : x = n
    · subst e2; simp [e]
    · rw [if_neg e2, if_neg e2]; have := gd.2 x; simp [e2, this]
  · rw [if_neg e]
    refine ⟨put_nodup gd.1, fun x => ?_⟩
    rw [dpLk_put]
    by_cases e2 : x = n
    · subst e2; simp [e]
    · rw [if_neg e2]; have := gd.2 x; simp [e2, this]
theorem good_its {x : Iss} (h : issB x = true) : Good x.its fun n => ctL n x.its := by
  have hn := its_nodup h
  have hp := its_pos h
  refine ⟨hn, fun n => ?_⟩
  generalize x.its = l at *
  clear h
  show dpLk n l = if ctL n l = 0 then none else some (ctL n l)
  induction l with
  | nil => simp [dpLk, ctL]
  | cons p l ih =>
    have h1 := hp p (List.mem_cons_self)
    by_cases e : n = p.1
    · have e5 : ctL n (p :: l) = p.2 := by simp [ctL, e]
      rw [e5, if_neg (by omega), dpLk, if_pos e]
    · have e5 : ctL n (p :: l) = ctL n l := by rw [ctL, if_neg fun h => e h.symm]
      rw [e5, dpLk, if_neg e]
      exact ih (by simp only [List.map_cons, List.nodup_cons] at hn; exact hn.2) fun y hy => hp y (List.mem_cons_of_mem _ hy)
/-- The drawings whose counts differ. -/
def kdL (r : List Iss) (f g : Int → Int) : List Int := (nums r).filter fun n => !decide (f n = g n)
theorem df_kd (r : List Iss) (f g : Int → Int) : dfN (nums r) f g (nums r).length = (kdL r f g).map fun n => ⟨n, f n, g n⟩ := by rw [dfN, List.take_length]; rfl
theorem df_kd2 (r : List Iss) (f g : Int → Int) : dfN (nums r) g f (nums r).length = (kdL r f g).map fun n => ⟨n, g n, f n⟩ := by
  rw [dfN, List.take_length]
  have e : (nums r).filter (fun n => !decide (g n = f n)) = kdL r f g := List.filter_congr fun n _ => by
    by_cases h : f n = g n
    · simp [h]
    · have h' : ¬ g n = f n := fun e => h e.symm
      simp [h, h']
  rw [e]
def mpT (g : Int → Int) (m : List (Int × Int)) (kd : List Int) (i : Nat) : List (Int × Int) := (kd.take i).foldl (stT g) m
theorem mpT_succ {g : Int → Int} {m : List (Int × Int)} {kd : List Int} {i : Nat} (h : i < kd.length) : mpT g m kd (i + 1) = stT g (mpT g m kd i) kd[i] := fold_take _ _ _ _ h
theorem mpT_good {f g : Int → Int} {m : List (Int × Int)} {kd : List Int} (hm : Good m f) : ∀ i, i ≤ kd.length → Good (mpT g m kd i) fun x => if x ∈ kd.take i then g x else f x
  | 0, _ => by simpa [mpT] using hm
  | i + 1, hi => by
    have hlt : i < kd.length := by omega
    have ih := (mpT_good (g := g) (kd := kd) hm i (by omega)).stT (g := g) kd[i]
    rw [mpT_succ hlt]
    have e : (fun x => if x = kd[i] then g x else if x ∈ kd.take i then g x else f x) = fun x => if x ∈ kd.take (i + 1) then g x else f x := by
      funext x
      have hm2 : x ∈ kd.take (i + 1) ↔ (x ∈ kd.take i ∨ x = kd[i]) := by rw [List.take_succ_eq_append_getElem hlt, List.mem_append, List.mem_singleton]
      by_cases e1 : x = kd[i]
      · rw [if_pos e1, if_pos (hm2.2 (.inr e1))]
      · by_cases e3 : x ∈ kd.take i
        · rw [if_neg e1, if_pos e3, if_pos (hm2.2 (.inl e3))]
        · rw [if_neg e1, if_neg e3, if_neg fun h => (hm2.1 h).elim e3 e1]
    rw [← e]; exact ih
theorem mpT_end {r : List Iss} {f g : Int → Int} {m : List (Int × Int)} (hm : Good m f) (h0 : ∀ n, n ∉ nums r → f n = g n) : Good (mpT g m (kdL r f g) (kdL r f g).length) g := by
  obtain ⟨h1, h2⟩ := mpT_good (g := g) hm (kdL r f g).length (Nat.le_refl _)
  have e : (fun x => if x ∈ (kdL r f g).take (kdL r f g).length then g x else f x) = g := by
    funext x
    rw [List.take_length]
    split
    · rfl
    · rename_i hx
      by_cases hn : x ∈ nums r
      · by_cases e : f x = g x
        · exact e
        · exact absurd (List.mem_filter.2 ⟨hn, by simp [e]⟩) hx
      · exact h0 x hn
  rw [e] at h2
  exact ⟨h1, h2⟩
theorem kd_pw {r : List Iss} {f g : Int → Int} (hL : listedB r = true) : (kdL r f g).Pairwise (· < ·) := ((numsN_spec (ord_of hL) r.length (Nat.le_refl _)).1).filter _
theorem kd_sorted {r : List Iss} {f g : Int → Int} (hL : listedB r = true) {i : Nat} (h : i + 1 < (kdL r f g).length) : (kdL r f g)[i] < (kdL r f g)[i + 1] :=
  List.pairwise_iff_getElem.1 (kd_pw hL) i (i + 1) (by omega) h (by omega)
theorem kd_ne {r : List Iss} {f g : Int → Int} {n : Int} (h : n ∈ kdL r f g) : f n ≠ g n := by
  have := (List.mem_filter.1 h).2
  simpa using this
theorem kd_notin {r : List Iss} {f g : Int → Int} (hL : listedB r = true) {i : Nat} (h : i < (kdL r f g).length) : (kdL r f g)[i] ∉ (kdL r f g).take i := by
  intro hm
  obtain ⟨j, hj, e⟩ := List.getElem_of_mem hm
  rw [List.getElem_take] at e
  have hji : j < i := by simp at hj; omega
  have := List.pairwise_iff_getElem.1 (kd_pw (f := f) (g := g) hL) j i (by omega) h hji
  omega
theorem ct_out {r : List Iss} (hL : listedB r = true) {x : Iss} (hx : x ∈ r) {n : Int} (hn : n ∉ nums r) : ctL n x.its = 0 :=
  ct_no fun h => by
    obtain ⟨y, hy, e⟩ := List.mem_map.1 h
    exact hn (e ▸ listed_in hL hx y hy)
theorem dsB_sym (a b : List Dm) (j : Nat) : dsB a b j = dsB b a j := by
  unfold dsB
  have e : decide (a.getD j Dm.zero = b.getD j Dm.zero) = decide (b.getD j Dm.zero = a.getD j Dm.zero) := decide_eq_decide.2 ⟨Eq.symm, Eq.symm⟩
  rw [e]
  cases decide (a.length ≤ j) <;> cases decide (b.length ≤ j) <;> rfl
theorem dsN_sym (a b : List Dm) (i : Nat) : dsN a b i = dsN b a i := by
  unfold dsN
  rw [List.filter_congr fun j _ => dsB_sym a b j]
theorem dsN_mem {a b : List Dm} {i j : Nat} (h : j < i) : ((j : Int) ∈ dsN a b i) ↔ dsB a b j = true := by
  simp only [dsN, List.mem_map, List.mem_filter, List.mem_range]
  constructor
  · rintro ⟨k, ⟨-, h2⟩, e⟩
    obtain rfl : k = j := by omega
    exact h2
  · intro h2
    exact ⟨j, ⟨h, h2⟩, rfl⟩
end Go.Proofs.YtdpmioiamcgfkaaDoor

/-! The law SheetTurned, by the abstract machine. -/
namespace Go.Proofs.YtdpmioiamcgfkaaDoor
open Go.RowKit

def ch3 (f g : Int → Int) (n : Int) : List AV := [.int .i64 n, .int .i64 (f n), .int .i64 (g n)]
theorem ch3_map (kd : List Int) (f g : Int → Int) : (kd.map fun n => (⟨n, f n, g n⟩ : Dm)).map dma = kd.map (ch3 f g) := by rw [List.map_map]; rfl
theorem df_ch (r : List Iss) (f g : Int → Int) : (dfN (nums r) f g (nums r).length).map dma = (kdL r f g).map (ch3 f g) := by rw [df_kd, ch3_map]
theorem df_ch2 (r : List Iss) (f g : Int → Int) : (dfN (nums r) g f (nums r).length).map dma = (kdL r f g).map (ch3 g f) := by rw [df_kd2, ch3_map]
def tuC (kd : List Int) (f g : Int → Int) (ds : List Int) : List (Nat × AV) :=
  [(9, .bool true), (13, .ptr 13 0), (15, .ptr 15 0), (17, .vsl (kd.map (ch3 f g))), (18, .vsl (ds.map ia)), (20, .vsl (kd.map (ch3 g f))), (23, .mp 119)]
def tuB (x y : Iss) (m : List (Int × Int)) : List (Nat × AObj) := [(13, .box [.int .i64 x.d, .int .i64 x.l, .int .u8 x.k, .vsl (x.its.map ita), .vsl (x.dms.map dma)]), (15, .box [.int .i64 y.d, .int .i64 y.l, .int .u8 y.k, .vsl (y.its.map ita), .vsl (y.dms.map dma)]), (119, .mp (dpA m))]
def tuA (kd : List Int) (f g : Int → Int) (ds : List Int) (x y : Iss) (i : Nat) : St := ⟨(123, .int .i64 i) :: (122, .int .i64 x.its.length) :: (121, .vsl (x.its.map ita)) :: tuC kd f g ds, tuB x y (x.its.take i)⟩
def tuL (kd : List Int) (f g : Int → Int) (ds : List Int) (x y : Iss) (i : Nat) : St := ⟨(135, .int .i64 i) :: (134, .int .i64 kd.length) :: (133, .vsl (kd.map (ch3 f g))) :: tuC kd f g ds, tuB x y (mpT g x.its kd i)⟩
def tuY (kd : List Int) (f g : Int → Int) (ds : List Int) (x y : Iss) (m : List (Int × Int)) (i : Nat) : St := ⟨(204, .int .i64 i) :: (203, .int .i64 y.its.length) :: (202, .vsl (y.its.map ita)) :: tuC kd f g ds, tuB x y m⟩
def tuD (kd : List Int) (f g : Int → Int) (ds : List Int) (x y : Iss) (m : List (Int × Int)) (i : Nat) : St := ⟨(223, .int .i64 i) :: (222, .int .i64 (max (x.dms.length : Int) y.dms.length)) :: tuC kd f g ds, tuB x y m⟩
theorem kept_dpA2 (o : List (Nat × AObj)) (l : List (Int × Int)) : keptO o (.mp (dpA l)) = true := by
  simp only [keptO, List.all_eq_true, dpA, List.mem_map]
  rintro x ⟨y, -, rfl⟩
  simp [keptA, AV.keys]
section
variable {G : Nat → Option (List AV)}

set_option maxHeartbeats 4000000 in
set_option maxRecDepth 100000 in
theorem turned_pc (hG : GC G) (r : List Iss) (w o k : Int) (hk : ∀ x ∈ r, KOk x) (w0 : 0 ≤ w ∧ w ≤ 255) (o0 : 0 ≤ o ∧ o ≤ 255) (k0 : 0 ≤ k ∧ k ≤ 255) :
    PC Tryd.prog G 12 [rega r, .int .u8 w, .int .u8 o, .int .u8 k] (.bool true) := by
  have hA := alive_pc hG
  have hrd0 := ready_pc (G := G) r hk
  cases hr : readyB r
  · rw [hr] at hrd0
    rw [rega] at hrd0
    (refine pc_law02_SheetTurned (Nat.le_of_ble_eq_true rfl) fun R hG hrd => GO_AR mixed 1000 ?_; subst hG)
    simp -implicitDefEqProofs [rc_law02_SheetTurned, rr_law02_SheetTurned, rega]
    (first | refine CallK.of (hA) (by simp) ?_ | refine CallD.of (hA) (by simp) ?_)
    simp -implicitDefEqProofs []
    (first | refine CallK.of (hrd0) (by simp) ?_ | refine CallD.of (hrd0) (by simp) ?_)
    simp -implicitDefEqProofs []
  obtain ⟨h, ho⟩ := ready_ok hr hk
  have hL := open_listed ho
  have hd := drV_mem hL w0.1
  have hdr := drawing_pc (G := G) r w h hL w0.1 w0.2
  have hlo := lastOf_pc (G := G) r (drV r w) h.1.1
  have lb := last_bd hL hd
  have to := tmod_bd o0.1 lb.1
  have tk := tmod_bd k0.1 lb.1
  have hat := fun l => at_pc hG r (drV r w) l h
  have hfi := fun l => find_iff hL (drV r w) l
  have hdf := fun n m => differP_pc hG r (drV r w) n m h
  have hmem := fun l x (hf : findN (drV r w) l r = some x) => (findN_mem hf).1
  rw [hr] at hrd0
  simp only [rega] at hrd0 hdr hlo hat hdf
  have wo : IntKind.i64.wrap o = o := wrapI (by omega) (by omega)
  have wk : IntKind.i64.wrap k = k := wrapI (by omega) (by omega)
  have wA : IntKind.i64.wrap (1 + o.tmod (lastV r (drV r w))) = 1 + o.tmod (lastV r (drV r w)) := wrapI (by omega) (by omega)
  have wB : IntKind.i64.wrap (1 + k.tmod (lastV r (drV r w))) = 1 + k.tmod (lastV r (drV r w)) := wrapI (by omega) (by omega)
  have l0 : ¬ lastV r (drV r w) = 0 := by omega
  generalize drV r w = D at *
  obtain ⟨x, hx⟩ := Option.isSome_iff_exists.1 ((hfi (1 + o.tmod (lastV r D))).2 (decide_eq_true (by omega)))
  obtain ⟨y, hy⟩ := Option.isSome_iff_exists.1 ((hfi (1 + k.tmod (lastV r D))).2 (decide_eq_true (by omega)))
  have hxm := hmem _ x hx
  have hym := hmem _ y hy
  have hax := hat (1 + o.tmod (lastV r D))
  have hay := hat (1 + k.tmod (lastV r D))
  have ex1 : atP r D (1 + o.tmod (lastV r D)) = (x, 0) := by simp [atP, ho, hx]
  have ey1 : atP r D (1 + k.tmod (lastV r D)) = (y, 0) := by simp [atP, ho, hy]
  rw [ex1] at hax
  rw [ey1] at hay
  have hd1 := hdf (1 + o.tmod (lastV r D)) (1 + k.tmod (lastV r D))
  have hd2 := hdf (1 + k.tmod (lastV r D)) (1 + o.tmod (lastV r D))
  have e1 : difE r D (1 + o.tmod (lastV r D)) (1 + k.tmod (lastV r D)) = (dfN (nums r) (fun n => ctL n x.its) (fun n => ctL n y.its) (nums r).length, dsN x.dms y.dms (max x.dms.length y.dms.length), 0) := by simp [difE, ho, hx, hy]
  have e2 : difE r D (1 + k.tmod (lastV r D)) (1 + o.tmod (lastV r D)) = (dfN (nums r) (fun n => ctL n y.its) (fun n => ctL n x.its) (nums r).length, dsN x.dms y.dms (max x.dms.length y.dms.length), 0) := by
    simp [difE, ho, hx, hy, dsN_sym y.dms x.dms, Nat.max_comm y.dms.length]
  rw [e1] at hd1
  rw [e2] at hd2
  have gx := good_its (listed_iss hL hxm)
  have gy := good_its (listed_iss hL hym)
  have nx := its_nodup (listed_iss hL hxm)
  have hyz : ∀ z ∈ y.its, ctL z.1 y.its = z.2 := fun z hz => ct_mem (its_nodup (listed_iss hL hym)) hz
  have h0 : ∀ n, n ∉ nums r → ctL n x.its = ctL n y.its := fun n hn => by rw [ct_out hL hxm hn, ct_out hL hym hn]
  have sx := h.1.2 x hxm
  have sy := h.1.2 y hym
  have hds := dsN_len x.dms y.dms (max x.dms.length y.dms.length)
  have hsd : Sml (dsN x.dms y.dms (max x.dms.length y.dms.length)) := by have := sx.2; have := sy.2; unfold Sml at *; omega
  have hsi := sameInts_pc (G := G) _ (dsN x.dms y.dms (max x.dms.length y.dms.length)) hsd
  have hh := fun n => hasL_pc (G := G) (dsN x.dms y.dms (max x.dms.length y.dms.length)) n hsd
  have hdm := fun j (hj : j < max x.dms.length y.dms.length) => dsN_mem (a := x.dms) (b := y.dms) hj
  generalize hds0 : dsN x.dms y.dms (max x.dms.length y.dms.length) = ds at *
  simp only [df_ch r (fun n => ctL n x.its) (fun n => ctL n y.its)] at hd1
  simp only [df_ch2 r (fun n => ctL n x.its) (fun n => ctL n y.its)] at hd2
  generalize hf : (fun n => ctL n x.its) = f at *
  generalize hg : (fun n => ctL n y.its) = g at *
  have h0' : ∀ n, n ∉ nums r → f n = g n := by subst hf; subst hg; exact h0
  have hyz' : ∀ z ∈ y.its, g z.1 = z.2 := by subst hg; exact hyz
  have gE := mpT_end gx h0'
  have gI := fun i hi => mpT_good (g := g) (kd := kdL r f g) gx i hi
  have kne := fun n (hn : n ∈ kdL r f g) => kd_ne hn
  have kni : ∀ i a, (kdL r f g)[i]? = some a → a ∉ (kdL r f g).take i := fun i a h1 => by
    obtain ⟨q1, rfl⟩ := List.getElem?_eq_some_iff.1 h1
    exact kd_notin hL q1
  have kso : ∀ i a b, (kdL r f g)[i]? = some a → (kdL r f g)[i + 1]? = some b → a < b := fun i a b h1 h2 => by
    obtain ⟨q1, rfl⟩ := List.getElem?_eq_some_iff.1 h1
    obtain ⟨q2, rfl⟩ := List.getElem?_eq_some_iff.1 h2
    exact kd_sorted hL q2
  have gL := gE.len gy
  have hkl : (kdL r f g).length ≤ 20 := Nat.le_trans (List.length_filter_le _ _) (listed_20 hL)
  generalize hkd : kdL r f g = kd at *
  generalize hla : 1 + o.tmod (lastV r D) = la at *
  generalize hlb : 1 + k.tmod (lastV r D) = lbb at *
  have ex : isa x = [.int .i64 x.d, .int .i64 x.l, .int .u8 x.k, .vsl (x.its.map ita), .vsl (x.dms.map dma)] := rfl
  have ey : isa y = [.int .i64 y.d, .int .i64 y.l, .int .u8 y.k, .vsl (y.its.map ita), .vsl (y.dms.map dma)] := rfl
  (refine pc_law02_SheetTurned (Nat.le_of_ble_eq_true rfl) fun R hG hrd => GO_AR mixed 1000 ?_; subst hG)
  simp -implicitDefEqProofs [rc_law02_SheetTurned, rr_law02_SheetTurned, rega]
  (first | refine CallK.of (hA) (by simp) ?_ | refine CallD.of (hA) (by simp) ?_)
  simp -implicitDefEqProofs []
  (first | refine CallK.of (hrd0) (by simp) ?_ | refine CallD.of (hrd0) (by simp) ?_)
  simp -implicitDefEqProofs []
  (first | refine CallK.of (hdr) (by simp) ?_ | refine CallD.of (hdr) (by simp) ?_)
  simp -implicitDefEqProofs [wo]
  (first | refine CallK.of (hlo) (by simp) ?_ | refine CallD.of (hlo) (by simp) ?_)
  simp -implicitDefEqProofs [l0, hla, wA, wk]
  (first | refine CallK.of (hlo) (by simp) ?_ | refine CallD.of (hlo) (by simp) ?_)
  simp -implicitDefEqProofs [l0, hlb, wB]
  refine ⟨rfl, ?_⟩
  (first | refine CallK.of (hax) (by simp) ?_ | refine CallD.of (hax) (by simp) ?_)
  simp -implicitDefEqProofs [ex]
  (first | refine CallK.of (hay) (by simp) ?_ | refine CallD.of (hay) (by simp) ?_)
  simp -implicitDefEqProofs [ey]
  (first | refine CallK.of (hd1) (by simp) ?_ | refine CallD.of (hd1) (by simp) ?_)
  simp -implicitDefEqProofs []
  (first | refine CallK.of (hd2) (by simp) ?_ | refine CallD.of (hd2) (by simp) ?_)
  simp -implicitDefEqProofs []
  (first | refine CallK.of (hsi) (by simp) ?_ | refine CallD.of (hsi) (by simp) ?_)
  simp -implicitDefEqProofs []
  refine AR_for (tuA kd f g ds x y) (fun _ => True) x.its.length ?_ trivial ?_ ?_
  · have z0 : dpA [] = [] := rfl
    ((try simp only [tuA, tuC, tuB, List.take_zero, z0]); refine Weak.sub (by simp [lk, keptA, AV.keys, tuA, tuC, tuB, List.take_zero, z0]) ?_; simp only [tuA, tuC, tuB, List.take_zero, z0, List.cons_append, List.nil_append, List.mem_cons, List.not_mem_nil, or_false, forall_eq_or_imp, forall_eq, kept_dpA2, and_true]; (try simp [lk, keptO, keptA, AV.keys, tuA, tuC, tuB, List.take_zero, z0]))
  · intro i hi _
    refine GO_AR mixed 1000 ?_
    have sx1 := sx.1
    have w2 : IntKind.i64.wrap ((i : Int) + 1) = (i : Int) + 1 := by unfold Sml at sx1; exact wrapI (by omega) (by omega)
    have hnk : x.its[i].1 ∉ (x.its.take i).map (·.1) := by
      intro hm
      rw [List.map_take] at hm
      obtain ⟨j, hj, e⟩ := List.getElem_of_mem hm
      rw [List.getElem_take] at e
      simp only [List.length_take, List.length_map] at hj
      have := List.pairwise_iff_getElem.1 nx j i (by simp; omega) (by simpa using hi) (by omega)
      simp only [List.getElem_map] at this e
      exact this e
    have pm := put_dp x.its[i].2 hnk
    have tk1 := List.take_succ_eq_append_getElem hi
    have tk2 : x.its.take i ++ [(x.its[i].1, x.its[i].2)] = x.its.take (i + 1) := tk1.symm
    rw [tk2] at pm
    generalize hT1 : x.its.take (i + 1) = T1 at *
    generalize hT0 : x.its.take i = T0 at *
    simp -implicitDefEqProofs [tuA, tuC, tuB, hi, ita, hT0, pm, w2]
    ((try simp only [tuA, tuC, tuB, hT1]); refine Weak.sub (by simp [lk, keptA, AV.keys, tuA, tuC, tuB, hT1]) ?_; simp only [tuA, tuC, tuB, hT1, List.cons_append, List.nil_append, List.mem_cons, List.not_mem_nil, or_false, forall_eq_or_imp, forall_eq, kept_dpA2, and_true]; (try simp [lk, keptO, keptA, AV.keys, tuA, tuC, tuB, hT1]))
  intro _
  refine GO_AR mixed 1000 ?_
  simp -implicitDefEqProofs [tuA, tuC, tuB]
  refine GO_ret mixed 1000 ?_
  simp -implicitDefEqProofs []
  refine AR_for (tuL kd f g ds x y) (fun _ => True) kd.length ?_ trivial ?_ ?_
  · ((try simp only [tuL, tuC, tuB, List.take_length, mpT, List.take_zero, List.foldl_nil]); refine Weak.sub (by simp [lk, keptA, AV.keys, tuL, tuC, tuB, List.take_length, mpT, List.take_zero, List.foldl_nil]) ?_; simp only [tuL, tuC, tuB, List.take_length, mpT, List.take_zero, List.foldl_nil, List.cons_append, List.nil_append, List.mem_cons, List.not_mem_nil, or_false, forall_eq_or_imp, forall_eq, kept_dpA2, and_true]; (try simp [lk, keptO, keptA, AV.keys, tuL, tuC, tuB, List.take_length, mpT, List.take_zero, List.foldl_nil]))
  · intro i hi _
    refine GO_AR mixed 1000 ?_
    have w2 : IntKind.i64.wrap ((i : Int) + 1) = (i : Int) + 1 := wrapI (by omega) (by omega)
    have gi := gI i (by omega)
    have sc := mpT_succ (g := g) (m := x.its) hi
    have hn1 := kne _ (List.getElem_mem hi)
    have hn2 := kni i kd[i] (List.getElem?_eq_getElem hi)
    have gp := get_dp kd[i] (mpT g x.its kd i)
    have gv := gi.2 kd[i]
    simp only [if_neg hn2] at gv
    rw [gv] at gp
    have pc := put_ct kd[i] (g kd[i]) (mpT g x.its kd i)
    have dc := del_ct kd[i] (mpPut kd[i] (g kd[i]) (mpT g x.its kd i))
    have hprev := fun j (hj : i = j + 1) => kso j (kd[j]'(by omega)) kd[i] (List.getElem?_eq_getElem (by omega)) (by subst hj; exact List.getElem?_eq_getElem hi)
    have el : (if f kd[i] = 0 then none else some (f kd[i])).getD 0 = f kd[i] := by
      by_cases e : f kd[i] = 0 <;> simp [e]
    have hge : ∀ n : Int, (if f n = 0 then (none : Option Int) else some (f n)) = if f n = 0 then none else some (f n) := fun _ => rfl
    unfold stT at sc
    by_cases z : g kd[i] = 0
    · rw [if_pos z] at sc
      rw [z] at pc dc sc hn1
      by_cases zf : f kd[i] = 0
      · exact absurd zf hn1
      rw [if_neg zf] at gp
      cases i with
      | zero =>
        have w1 : IntKind.i64.wrap 1 = 1 := rfl
        simp -implicitDefEqProofs [tuL, tuC, tuB, hi, ch3, hn1, gp, pc, w1, z, zf, dc]
        refine ⟨rfl, ?_⟩
        ((try simp only [tuL, tuC, tuB, sc]); refine Weak.sub (by simp [lk, keptA, AV.keys, tuL, tuC, tuB, sc]) ?_; simp only [tuL, tuC, tuB, sc, List.cons_append, List.nil_append, List.mem_cons, List.not_mem_nil, or_false, forall_eq_or_imp, forall_eq, kept_dpA2, and_true]; (try simp [lk, keptO, keptA, AV.keys, tuL, tuC, tuB, sc]))
      | succ i =>
        have hp := hprev i rfl
        have hp' : ¬ kd[i + 1] ≤ kd[i] := by omega
        have k1 : (i : Int) + 1 < kd.length := by omega
        have k2 : ((i : Int) + 1).toNat = i + 1 := by omega
        have k3 : (0 : Int) ≤ (i : Int) + 1 := by omega
        have k4 : i < kd.length := by omega
        have k5 : (0 : Int) < (i : Int) + 1 := by omega
        have w4 : IntKind.i64.wrap (i : Int) = i := wrapI (by omega) (by omega)
        have w5 : IntKind.i64.wrap ((i : Int) + 1 + 1) = (i : Int) + 1 + 1 := wrapI (by omega) (by omega)
        simp -implicitDefEqProofs [tuL, tuC, tuB, hi, ch3, hn1, gp, pc, k1, k2, k3, k4, k5, w4, w5, hp', z, zf, dc]
        refine ⟨rfl, ?_⟩
        ((try simp only [tuL, tuC, tuB, sc]); refine Weak.sub (by simp [lk, keptA, AV.keys, tuL, tuC, tuB, sc]) ?_; simp only [tuL, tuC, tuB, sc, List.cons_append, List.nil_append, List.mem_cons, List.not_mem_nil, or_false, forall_eq_or_imp, forall_eq, kept_dpA2, and_true]; (try simp [lk, keptO, keptA, AV.keys, tuL, tuC, tuB, sc]))
    · rw [if_neg z] at sc
      by_cases zf : f kd[i] = 0
      · rw [if_pos zf] at gp
        have zn : ¬ (0 : Int) = g kd[i] := fun e => z e.symm
        cases i with
        | zero =>
          have w1 : IntKind.i64.wrap 1 = 1 := rfl
          simp -implicitDefEqProofs [tuL, tuC, tuB, hi, ch3, hn1, gp, pc, w1, z, zf, zn]
          refine ⟨rfl, ?_⟩
          ((try simp only [tuL, tuC, tuB, sc]); refine Weak.sub (by simp [lk, keptA, AV.keys, tuL, tuC, tuB, sc]) ?_; simp only [tuL, tuC, tuB, sc, List.cons_append, List.nil_append, List.mem_cons, List.not_mem_nil, or_false, forall_eq_or_imp, forall_eq, kept_dpA2, and_true]; (try simp [lk, keptO, keptA, AV.keys, tuL, tuC, tuB, sc]))
        | succ i =>
          have hp := hprev i rfl
          have hp' : ¬ kd[i + 1] ≤ kd[i] := by omega
          have k1 : (i : Int) + 1 < kd.length := by omega
          have k2 : ((i : Int) + 1).toNat = i + 1 := by omega
          have k3 : (0 : Int) ≤ (i : Int) + 1 := by omega
          have k4 : i < kd.length := by omega
          have k5 : (0 : Int) < (i : Int) + 1 := by omega
          have w4 : IntKind.i64.wrap (i : Int) = i := wrapI (by omega) (by omega)
          have w5 : IntKind.i64.wrap ((i : Int) + 1 + 1) = (i : Int) + 1 + 1 := wrapI (by omega) (by omega)
          simp -implicitDefEqProofs [tuL, tuC, tuB, hi, ch3, hn1, gp, pc, k1, k2, k3, k4, k5, w4, w5, hp', z, zf, zn]
          refine ⟨rfl, ?_⟩
          ((try simp only [tuL, tuC, tuB, sc]); refine Weak.sub (by simp [lk, keptA, AV.keys, tuL, tuC, tuB, sc]) ?_; simp only [tuL, tuC, tuB, sc, List.cons_append, List.nil_append, List.mem_cons, List.not_mem_nil, or_false, forall_eq_or_imp, forall_eq, kept_dpA2, and_true]; (try simp [lk, keptO, keptA, AV.keys, tuL, tuC, tuB, sc]))
      · rw [if_neg zf] at gp
        cases i with
        | zero =>
          have w1 : IntKind.i64.wrap 1 = 1 := rfl
          simp -implicitDefEqProofs [tuL, tuC, tuB, hi, ch3, hn1, gp, pc, w1, z, zf]
          refine ⟨rfl, ?_⟩
          ((try simp only [tuL, tuC, tuB, sc]); refine Weak.sub (by simp [lk, keptA, AV.keys, tuL, tuC, tuB, sc]) ?_; simp only [tuL, tuC, tuB, sc, List.cons_append, List.nil_append, List.mem_cons, List.not_mem_nil, or_false, forall_eq_or_imp, forall_eq, kept_dpA2, and_true]; (try simp [lk, keptO, keptA, AV.keys, tuL, tuC, tuB, sc]))
        | succ i =>
          have hp := hprev i rfl
          have hp' : ¬ kd[i + 1] ≤ kd[i] := by omega
          have k1 : (i : Int) + 1 < kd.length := by omega
          have k2 : ((i : Int) + 1).toNat = i + 1 := by omega
          have k3 : (0 : Int) ≤ (i : Int) + 1 := by omega
          have k4 : i < kd.length := by omega
          have k5 : (0 : Int) < (i : Int) + 1 := by omega
          have w4 : IntKind.i64.wrap (i : Int) = i := wrapI (by omega) (by omega)
          have w5 : IntKind.i64.wrap ((i : Int) + 1 + 1) = (i : Int) + 1 + 1 := wrapI (by omega) (by omega)
          simp -implicitDefEqProofs [tuL, tuC, tuB, hi, ch3, hn1, gp, pc, k1, k2, k3, k4, k5, w4, w5, hp', z, zf]
          refine ⟨rfl, ?_⟩
          ((try simp only [tuL, tuC, tuB, sc]); refine Weak.sub (by simp [lk, keptA, AV.keys, tuL, tuC, tuB, sc]) ?_; simp only [tuL, tuC, tuB, sc, List.cons_append, List.nil_append, List.mem_cons, List.not_mem_nil, or_false, forall_eq_or_imp, forall_eq, kept_dpA2, and_true]; (try simp [lk, keptO, keptA, AV.keys, tuL, tuC, tuB, sc]))
  intro _
  refine GO_AR mixed 1000 ?_
  generalize hM : mpT g x.its kd kd.length = M at *
  have gL' : (M.length : Int) = y.its.length := by omega
  simp -implicitDefEqProofs [tuL, tuC, tuB, hM]
  refine GO_ret mixed 1000 ?_
  have dl : (dpA M).length = y.its.length := by rw [← gL]; simp [dpA]
  simp -implicitDefEqProofs [dl]
  refine AR_for (tuY kd f g ds x y M) (fun _ => True) y.its.length ?_ trivial ?_ ?_
  · ((try simp only [tuY, tuC, tuB]); refine Weak.sub (by simp [lk, keptA, AV.keys, tuY, tuC, tuB]) ?_; simp only [tuY, tuC, tuB, List.cons_append, List.nil_append, List.mem_cons, List.not_mem_nil, or_false, forall_eq_or_imp, forall_eq, kept_dpA2, and_true]; (try simp [lk, keptO, keptA, AV.keys, tuY, tuC, tuB]))
  · intro i hi _
    refine GO_AR mixed 1000 ?_
    have sy1 := sy.1
    have w2 : IntKind.i64.wrap ((i : Int) + 1) = (i : Int) + 1 := by unfold Sml at sy1; exact wrapI (by omega) (by omega)
    have gp := get_dp y.its[i].1 M
    have gv := gE.2 y.its[i].1
    have hz := hyz' _ (List.getElem_mem hi)
    rw [hz] at gv
    rw [gv] at gp
    by_cases z : y.its[i].2 = 0
    · rw [if_pos z] at gp
      simp -implicitDefEqProofs [tuY, tuC, tuB, hi, ita, gp, z, w2]
      ((try simp only [tuY, tuC, tuB]); refine Weak.sub (by simp [lk, keptA, AV.keys, tuY, tuC, tuB]) ?_; simp only [tuY, tuC, tuB, List.cons_append, List.nil_append, List.mem_cons, List.not_mem_nil, or_false, forall_eq_or_imp, forall_eq, kept_dpA2, and_true]; (try simp [lk, keptO, keptA, AV.keys, tuY, tuC, tuB]))
    · rw [if_neg z] at gp
      simp -implicitDefEqProofs [tuY, tuC, tuB, hi, ita, gp, z, w2]
      ((try simp only [tuY, tuC, tuB]); refine Weak.sub (by simp [lk, keptA, AV.keys, tuY, tuC, tuB]) ?_; simp only [tuY, tuC, tuB, List.cons_append, List.nil_append, List.mem_cons, List.not_mem_nil, or_false, forall_eq_or_imp, forall_eq, kept_dpA2, and_true]; (try simp [lk, keptO, keptA, AV.keys, tuY, tuC, tuB]))
  intro _
  refine GO_AR mixed 1000 ?_
  simp -implicitDefEqProofs [tuY, tuC, tuB]
  refine GO_ret mixed 1000 ?_
  simp -implicitDefEqProofs []
  refine AR_for (tuD kd f g ds x y M) (fun _ => True) (max x.dms.length y.dms.length) ?_ trivial ?_ ?_
  · ((try simp only [tuD, tuC, tuB]); refine Weak.sub (by simp [lk, keptA, AV.keys, tuD, tuC, tuB]) ?_; simp only [tuD, tuC, tuB, List.cons_append, List.nil_append, List.mem_cons, List.not_mem_nil, or_false, forall_eq_or_imp, forall_eq, kept_dpA2, and_true]; (try simp [lk, keptO, keptA, AV.keys, tuD, tuC, tuB]))
  · intro i hi _
    refine GO_AR mixed 1000 ?_
    have sx2 := sx.2
    have sy2 := sy.2
    have w2 : IntKind.i64.wrap ((i : Int) + 1) = (i : Int) + 1 := by unfold Sml at sx2 sy2; exact wrapI (by omega) (by omega)
    have hi' : (i : Int) < max (x.dms.length : Int) y.dms.length := by omega
    have hin : decide ((i : Int) ∈ ds) = dsB x.dms y.dms i := by
      have := hdm i hi
      cases q : dsB x.dms y.dms i
      · rw [q] at this; exact decide_eq_false fun h => by cases this.1 h
      · rw [q] at this; exact decide_eq_true (this.2 rfl)
    by_cases c1 : x.dms.length ≤ i
    · have c1' : (x.dms.length : Int) ≤ i := by omega
      have q : dsB x.dms y.dms i = true := by simp [dsB, c1]
      rw [q] at hin
      simp -implicitDefEqProofs [tuD, tuC, tuB, hi', c1, c1']
      refine ⟨rfl, ?_⟩
      (first | refine CallK.of (hh i) (by simp) ?_ | refine CallD.of (hh i) (by simp) ?_)
      simp -implicitDefEqProofs [hin, w2]
      ((try simp only [tuD, tuC, tuB]); refine Weak.sub (by simp [lk, keptA, AV.keys, tuD, tuC, tuB]) ?_; simp only [tuD, tuC, tuB, List.cons_append, List.nil_append, List.mem_cons, List.not_mem_nil, or_false, forall_eq_or_imp, forall_eq, kept_dpA2, and_true]; (try simp [lk, keptO, keptA, AV.keys, tuD, tuC, tuB]))
    · have c1' : ¬ (x.dms.length : Int) ≤ i := by omega
      by_cases c2 : y.dms.length ≤ i
      · have c2' : (y.dms.length : Int) ≤ i := by omega
        have q : dsB x.dms y.dms i = true := by simp [dsB, c2]
        rw [q] at hin
        simp -implicitDefEqProofs [tuD, tuC, tuB, hi', c1, c1', c2, c2']
        refine ⟨rfl, ?_⟩
        (first | refine CallK.of (hh i) (by simp) ?_ | refine CallD.of (hh i) (by simp) ?_)
        simp -implicitDefEqProofs [hin, w2]
        ((try simp only [tuD, tuC, tuB]); refine Weak.sub (by simp [lk, keptA, AV.keys, tuD, tuC, tuB]) ?_; simp only [tuD, tuC, tuB, List.cons_append, List.nil_append, List.mem_cons, List.not_mem_nil, or_false, forall_eq_or_imp, forall_eq, kept_dpA2, and_true]; (try simp [lk, keptO, keptA, AV.keys, tuD, tuC, tuB]))
      · have c2' : ¬ (y.dms.length : Int) ≤ i := by omega
        have ha : i < x.dms.length := by omega
        have hb : i < y.dms.length := by omega
        have q := dsB_at ha hb
        by_cases e : x.dms[i] = y.dms[i]
        · rw [decide_eq_true e] at q
          rw [q] at hin
          simp -implicitDefEqProofs [tuD, tuC, tuB, hi', c1, c1', c2, c2', ha, hb, dma, e]
          refine ⟨rfl, ?_⟩
          (first | refine CallK.of (hh i) (by simp) ?_ | refine CallD.of (hh i) (by simp) ?_)
          simp -implicitDefEqProofs [hin, w2]
          ((try simp only [tuD, tuC, tuB]); refine Weak.sub (by simp [lk, keptA, AV.keys, tuD, tuC, tuB]) ?_; simp only [tuD, tuC, tuB, List.cons_append, List.nil_append, List.mem_cons, List.not_mem_nil, or_false, forall_eq_or_imp, forall_eq, kept_dpA2, and_true]; (try simp [lk, keptO, keptA, AV.keys, tuD, tuC, tuB]))
        · rw [decide_eq_false e] at q
          rw [q] at hin
          have dn := dm_ne e
          simp -implicitDefEqProofs [tuD, tuC, tuB, hi', c1, c1', c2, c2', ha, hb, dma, dn]
          refine ⟨rfl, ?_⟩
          (first | refine CallK.of (hh i) (by simp) ?_ | refine CallD.of (hh i) (by simp) ?_)
          simp -implicitDefEqProofs [hin, w2]
          ((try simp only [tuD, tuC, tuB]); refine Weak.sub (by simp [lk, keptA, AV.keys, tuD, tuC, tuB]) ?_; simp only [tuD, tuC, tuB, List.cons_append, List.nil_append, List.mem_cons, List.not_mem_nil, or_false, forall_eq_or_imp, forall_eq, kept_dpA2, and_true]; (try simp [lk, keptO, keptA, AV.keys, tuD, tuC, tuB]))
  intro _
  refine GO_AR mixed 1000 ?_
  have hE : ¬ ((max x.dms.length y.dms.length : Nat) : Int) < max (x.dms.length : Int) y.dms.length := by omega
  have hE' : ¬ max (x.dms.length : Int) y.dms.length < max (x.dms.length : Int) y.dms.length := by omega
  simp -implicitDefEqProofs [tuD, tuC, tuB, hE, hE']
  refine GO_ret mixed 1000 ?_
  simp -implicitDefEqProofs []
end
end Go.Proofs.YtdpmioiamcgfkaaDoor
