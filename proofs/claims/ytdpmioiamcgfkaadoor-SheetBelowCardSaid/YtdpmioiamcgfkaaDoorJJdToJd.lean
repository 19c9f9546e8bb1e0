/-
  The law SheetBelow, by the abstract machine.
-/
import Derived.Test.YtdpmioiamcgfkaaDoorJRcLToRcB
import Derived.Test.YtdpmioiamcgfkaaDoorJFfToIg
set_option linter.unusedSimpArgs false
set_option linter.unusedVariables false
namespace Go.Proofs.YtdpmioiamcgfkaaDoor
open Go.RowKit

def lsN (r : List Iss) (d : Int) (i : Nat) : List Iss := (r.take i).filter fun x => bwB r d x.d
theorem lsN_succ {r : List Iss} {d : Int} {i : Nat} (h : i < r.length) : lsN r d (i + 1) = if bwB r d r[i].d = true then lsN r d i ++ [r[i]] else lsN r d i := by
  unfold lsN
  rw [List.take_succ_eq_append_getElem h, List.filter_append]
  split
  · rename_i e; rw [List.filter_cons_of_pos (by simpa using e)]; rfl
  · rename_i e; rw [List.filter_cons_of_neg (by simpa using e)]; simp
theorem lsN_len (r : List Iss) (d : Int) (i : Nat) : (lsN r d i).length ≤ i := Nat.le_trans (List.length_filter_le _ _) (by simp; omega)
theorem owL_len (r : List Iss) (lt : List Int) (d : Int) (i : Nat) : (owL r lt d i).length ≤ i := by
  unfold owL
  rw [List.length_map]
  exact Nat.le_trans (List.length_filter_le _ _) (by simp; omega)
def beC (lt : List Int) (D : Int) : List (Nat × AV) := [(3, .ptr 3 0), (7, .bool true), (8, .vsl (lt.map ia)), (9, .int .i64 D), (10, .mp 48)]
def beB (r : List Iss) (m : List (Int × Bool)) : List (Nat × AObj) := [(3, .box [.vsl (r.map isa)]), (48, .mp (mpA AV.bool m))]
def be1 (r : List Iss) (lt : List Int) (D : Int) (k : Nat) : St := ⟨(51, .int .i64 k) :: beC lt D, beB r (bwN r D k)⟩
def be2 (r : List Iss) (lt : List Int) (D : Int) (k i : Nat) : St := ⟨(56, .int .i64 i) :: (55, .int .i64 r.length) :: (54, .vsl (r.map isa)) :: (51, .int .i64 k) :: beC lt D, beB r ((r.take i).foldl bwX (bwN r D k))⟩
def be3 (r : List Iss) (lt : List Int) (D : Int) (k i : Nat) (x : Iss) (m : List (Int × Bool)) (j : Nat) : St :=
  ⟨(63, .int .i64 j) :: (62, .int .i64 x.its.length) :: (61, .vsl (x.its.map ita)) :: (12, .ptr 12 0) :: (56, .int .i64 i) :: (55, .int .i64 r.length) :: (54, .vsl (r.map isa)) :: (51, .int .i64 k) :: beC lt D,
   (12, .box [.int .i64 x.d, .int .i64 x.l, .int .u8 x.k, .vsl (x.its.map ita), .vsl (x.dms.map dma)]) :: beB r ((x.its.take j).foldl (bwS x.d) m)⟩
def be4 (r : List Iss) (lt : List Int) (D : Int) (i : Nat) : St := if lsN r D i = [] then ⟨(86, .int .i64 i) :: (85, .int .i64 r.length) :: (84, .vsl (r.map isa)) :: (15, .ptr 15 0) :: beC lt D, (15, .box [.nils]) :: beB r (bwN r D 6)⟩
  else ⟨(86, .int .i64 i) :: (85, .int .i64 r.length) :: (84, .vsl (r.map isa)) :: (15, .ptr 15 0) :: beC lt D, (15, .box [.osl 98 (lsN r D i).length]) :: (98, .row 5 ((lsN r D i).map isa)) :: beB r (bwN r D 6)⟩
def be5 (r : List Iss) (lt : List Int) (D : Int) (i : Nat) : St := if owL r lt D i = [] then ⟨(104, .int .i64 i) :: (103, .int .i64 (nums r).length) :: (102, .vsl ((nums r).map ia)) :: (18, .nils) :: (15, .ptr 15 0) :: beC lt D, (15, .box [.osl 98 (lsR r D).length]) :: (98, .row 5 ((lsR r D).map isa)) :: beB r (bwN r D 6)⟩
  else ⟨(104, .int .i64 i) :: (103, .int .i64 (nums r).length) :: (102, .vsl ((nums r).map ia)) :: (18, .osl 118 (owL r lt D i).length) :: (15, .ptr 15 0) :: beC lt D, (15, .box [.osl 98 (lsR r D).length]) :: (98, .row 5 ((lsR r D).map isa)) :: (118, .row 1 ((owL r lt D i).map ia)) :: beB r (bwN r D 6)⟩
theorem kept_mb (o : List (Nat × AObj)) (l : List (Int × Bool)) : keptO o (.mp (mpA AV.bool l)) = true := by
  simp only [keptO, List.all_eq_true, mpA, List.mem_map]
  rintro _ ⟨y, -, rfl⟩
  simp [keptA, AV.keys]
section
variable {G : Nat → Option (List AV)}

set_option maxHeartbeats 8000000 in
set_option maxRecDepth 100000 in
theorem below_pc (hG : GC G) (r : List Iss) (b : List Int) (w : Int) (hk : ∀ x ∈ r, KOk x) (hb : Ubs b) (w0 : 0 ≤ w ∧ w ≤ 255) :
    PC Tryd.prog G 13 [rega r, .vsl (b.map ua), .int .u8 w] (.bool true) := by
  have hA := alive_pc hG
  have hrd0 := ready_pc (G := G) r hk
  cases hr : readyB r
  · rw [hr] at hrd0
    rw [rega] at hrd0
    (refine pc_law02_SheetBelow (Nat.le_of_ble_eq_true rfl) fun R hG hrd => GO_AR mixed 1000 ?_; subst hG)
    simp -implicitDefEqProofs [rc_law02_SheetBelow, rr_law02_SheetBelow, rega]
    (first | refine CallK.of (hA) (by simp) ?_ | refine CallD.of (hA) (by simp) ?_)
    simp -implicitDefEqProofs []
    (first | refine CallK.of (hrd0) (by simp) ?_ | refine CallD.of (hrd0) (by simp) ?_)
    simp -implicitDefEqProofs []
  obtain ⟨h, ho⟩ := ready_ok hr hk
  have hL := open_listed ho
  have h60 := listed_60 hL
  have h20 := listed_20 hL
  have hne : r ≠ [] := by rintro rfl; simp at h60
  have hlt := lsV_ok hL hb
  have hd := drV_mem hL w0.1
  have hls := lettersL_pc (G := G) r b h hL hb
  have hdr := drawing_pc (G := G) r w h hL w0.1 w0.2
  have hnm := numbers_pc (G := G) r h.1.1 hne
  have hll := lsV_len r b (nums r).length
  have hwl : Wf (lsR r (drV r w)) := ⟨⟨by have := List.length_filter_le (fun x : Iss => bwB r (drV r w) x.d) r; unfold Sml lsR; omega, fun x hx => h.1.2 x (List.mem_filter.1 hx).1⟩, fun x hx => h.2 x (List.mem_filter.1 hx).1⟩
  have hex := explP_pc hG r (lsV r b (nums r).length) (drV r w) h
  rw [exV_pz ho hlt hd, rega] at hex
  have hex2 := explP_pc hG (lsR r (drV r w)) ((nums (lsR r (drV r w))).map (ltOf r (lsV r b (nums r).length))) (drV r w) hwl
  rw [exV_pz (ls_open ho hd) (ls_ltB ho hd hlt) (ls_self ho hd), ls_ex ho hd hlt, rega] at hex2
  have htr := treeP_pc hG r (lsV r b (nums r).length) (drV r w) h
  have htr2 := treeP_pc hG (lsR r (drV r w)) ((nums (lsR r (drV r w))).map (ltOf r (lsV r b (nums r).length))) (drV r w) hwl
  rw [ls_tr ho hd hlt] at htr2
  have hdp := depthP_pc hG r (drV r w) h
  have hdp2 := depthP_pc hG (lsR r (drV r w)) (drV r w) hwl
  have kn1 : knV r (drV r w) = 0 := by simp [knV, ho, hd]
  have kn2 : knV (lsR r (drV r w)) (drV r w) = 0 := by simp [knV, ls_open ho hd, ls_self ho hd]
  rw [kn1, if_pos rfl, ← (dp_Dv hL (left_none ho) hd).2] at hdp
  rw [kn2, if_pos rfl, ls_dp ho hd (ls_self ho hd)] at hdp2
  have hck := checkP_pc hG (lsR r (drV r w)) hwl
  rw [ls_open ho hd] at hck
  have hpl : Sml (pzN r (lsV r b (nums r).length) (drV r w)) := by have := ptN_len (nums r) (paZ (tkV r (lsV r b (nums r).length)) 6 (drV r w)) (nums r).length; unfold Sml; unfold pzN; omega
  have hsi := sameItems_pc (G := G) _ (pzN r (lsV r b (nums r).length) (drV r w)) hpl
  rw [decide_eq_true rfl] at hsi
  have htl := trE_sml (r := r) (lt := lsV r b (nums r).length) (n := drV r w)
  have hsb := sameBr_pc (G := G) _ (trE r (lsV r b (nums r).length) (drV r w)).1 htl
  rw [decide_eq_true rfl] at hsb
  have ltk : ∀ i (hi : i < (nums r).length) (hh : i < (lsV r b (nums r).length).length), (lsV r b (nums r).length)[i]'hh = ltOf r (lsV r b (nums r).length) (nums r)[i] := fun i hi hh => by
    rw [ltOf, idxOf_num (ord_of hL) hi, List.getD_eq_getElem?_getD, List.getElem?_eq_getElem hh]; rfl
  have hoe := owL_end (lt := lsV r b (nums r).length) ho hd
  have hself := ls_self ho hd
  have hlne : lsR r (drV r w) ≠ [] := by intro e; rw [e] at hself; simp [nums, numsN] at hself
  have hnne : (nums (lsR r (drV r w))) ≠ [] := fun e => by rw [e] at hself; cases hself
  rw [hr] at hrd0
  rw [rega] at hrd0 hls hdr hnm htr htr2 hdp hdp2 hck
  generalize hD : drV r w = D at *
  generalize hlt0 : lsV r b (nums r).length = lt at *
  have p0 : (KK.i .i64).put (.int .i64 D) (.bool true) [] = some (mpA AV.bool [(D, true)]) := put_mpP AV.bool D true []
  (refine pc_law02_SheetBelow (Nat.le_of_ble_eq_true rfl) fun R hG hrd => GO_AR mixed 1000 ?_; subst hG)
  simp -implicitDefEqProofs [rc_law02_SheetBelow, rr_law02_SheetBelow, rega]
  (first | refine CallK.of (hA) (by simp) ?_ | refine CallD.of (hA) (by simp) ?_)
  simp -implicitDefEqProofs []
  (first | refine CallK.of (hrd0) (by simp) ?_ | refine CallD.of (hrd0) (by simp) ?_)
  simp -implicitDefEqProofs []
  (first | refine CallK.of (hls) (by simp) ?_ | refine CallD.of (hls) (by simp) ?_)
  simp -implicitDefEqProofs []
  (first | refine CallK.of (hdr) (by simp) ?_ | refine CallD.of (hdr) (by simp) ?_)
  simp -implicitDefEqProofs [p0]
  refine ⟨rfl, ?_⟩
  refine AR_for (be1 r lt D) (fun _ => True) 6 ?_ trivial ?_ ?_
  · ((try simp only [be1, beC, beB, bwN]); refine Weak.sub (by simp [lk, keptA, AV.keys, be1, beC, beB, bwN]) ?_; simp only [be1, beC, beB, bwN, List.cons_append, List.nil_append, List.mem_cons, List.not_mem_nil, or_false, forall_eq_or_imp, forall_eq, kept_mb, and_true]; (try simp [lk, keptO, keptA, AV.keys, be1, beC, beB, bwN]))
  · intro k hk6 _
    refine GO_AR mixed 1000 ?_
    have k6 : (k : Int) < 6 := by omega
    have wk : IntKind.i64.wrap ((k : Int) + 1) = (k : Int) + 1 := wrapI (by omega) (by omega)
    simp -implicitDefEqProofs [be1, beC, beB, k6, hk6]
    refine AR_for (be2 r lt D k) (fun _ => True) r.length ?_ trivial ?_ ?_
    · ((try simp only [be2, beC, beB, List.take_zero, List.foldl_nil]); refine Weak.sub (by simp [lk, keptA, AV.keys, be2, beC, beB, List.take_zero, List.foldl_nil]) ?_; simp only [be2, beC, beB, List.take_zero, List.foldl_nil, List.cons_append, List.nil_append, List.mem_cons, List.not_mem_nil, or_false, forall_eq_or_imp, forall_eq, kept_mb, and_true]; (try simp [lk, keptO, keptA, AV.keys, be2, beC, beB, List.take_zero, List.foldl_nil]))
    · intro i hi _
      refine GO_AR mixed 1000 ?_
      have hxi := h.1.2 r[i] (List.getElem_mem hi)
      have ex : isa r[i] = [.int .i64 r[i].d, .int .i64 r[i].l, .int .u8 r[i].k, .vsl (r[i].its.map ita), .vsl (r[i].dms.map dma)] := rfl
      have wi : IntKind.i64.wrap ((i : Int) + 1) = (i : Int) + 1 := wrapI (by omega) (by omega)
      have ft := fold_take bwX (bwN r D k) r i hi
      have hil : r[i].its.length ≤ 16777216 := hxi.1
      generalize hm0 : (r.take i).foldl bwX (bwN r D k) = m0 at *
      generalize hx : r[i] = x at *
      simp -implicitDefEqProofs [be2, beC, beB, hi, hx, ex, hm0]
      refine AR_for (be3 r lt D k i x m0) (fun _ => True) x.its.length ?_ trivial ?_ ?_
      · ((try simp only [be3, beC, beB, List.take_zero, List.foldl_nil]); refine Weak.sub (by simp [lk, keptA, AV.keys, be3, beC, beB, List.take_zero, List.foldl_nil]) ?_; simp only [be3, beC, beB, List.take_zero, List.foldl_nil, List.cons_append, List.nil_append, List.mem_cons, List.not_mem_nil, or_false, forall_eq_or_imp, forall_eq, kept_mb, and_true]; (try simp [lk, keptO, keptA, AV.keys, be3, beC, beB, List.take_zero, List.foldl_nil]))
      · intro j hj _
        refine GO_AR mixed 1000 ?_
        have wj : IntKind.i64.wrap ((j : Int) + 1) = (j : Int) + 1 := wrapI (by omega) (by omega)
        have fj := fold_take (bwS x.d) m0 x.its j hj
        generalize hm1 : (x.its.take j).foldl (bwS x.d) m0 = m1 at *
        have g1 := get_mp AV.bool x.its[j].1 m1
        have g2 := get_mp AV.bool x.d m1
        have pt := put_mpP AV.bool x.its[j].1 true m1
        have pf := put_mpP AV.bool x.its[j].1 false m1
        cases q1 : mlk x.its[j].1 m1 with
        | some v1 =>
          cases v1 with
          | true =>
            have fs : bwS x.d m1 x.its[j] = mpP x.its[j].1 true m1 := by rw [bwS, gB, q1]; rfl
            rw [fs] at fj
            rw [q1, Option.map_some] at g1
            simp -implicitDefEqProofs [be3, beC, beB, hj, ita, g1, hm1, pt, wj]
            ((try simp only [be3, beC, beB, fj]); refine Weak.sub (by simp [lk, keptA, AV.keys, be3, beC, beB, fj]) ?_; simp only [be3, beC, beB, fj, List.cons_append, List.nil_append, List.mem_cons, List.not_mem_nil, or_false, forall_eq_or_imp, forall_eq, kept_mb, and_true]; (try simp [lk, keptO, keptA, AV.keys, be3, beC, beB, fj]))
          | false =>
            cases q2 : mlk x.d m1 with
            | some v2 =>
              have fs : bwS x.d m1 x.its[j] = mpP x.its[j].1 v2 m1 := by rw [bwS, gB, q1, gB, q2]; rfl
              rw [fs] at fj
              rw [q1, Option.map_some] at g1
              rw [q2, Option.map_some] at g2
              have pv := put_mpP AV.bool x.its[j].1 v2 m1
              simp -implicitDefEqProofs [be3, beC, beB, hj, ita, g1, g2, hm1, pv, wj]
              ((try simp only [be3, beC, beB, fj]); refine Weak.sub (by simp [lk, keptA, AV.keys, be3, beC, beB, fj]) ?_; simp only [be3, beC, beB, fj, List.cons_append, List.nil_append, List.mem_cons, List.not_mem_nil, or_false, forall_eq_or_imp, forall_eq, kept_mb, and_true]; (try simp [lk, keptO, keptA, AV.keys, be3, beC, beB, fj]))
            | none =>
              have fs : bwS x.d m1 x.its[j] = mpP x.its[j].1 false m1 := by rw [bwS, gB, q1, gB, q2]; rfl
              rw [fs] at fj
              rw [q1, Option.map_some] at g1
              rw [q2, Option.map_none] at g2
              simp -implicitDefEqProofs [be3, beC, beB, hj, ita, g1, g2, hm1, pf, wj]
              ((try simp only [be3, beC, beB, fj]); refine Weak.sub (by simp [lk, keptA, AV.keys, be3, beC, beB, fj]) ?_; simp only [be3, beC, beB, fj, List.cons_append, List.nil_append, List.mem_cons, List.not_mem_nil, or_false, forall_eq_or_imp, forall_eq, kept_mb, and_true]; (try simp [lk, keptO, keptA, AV.keys, be3, beC, beB, fj]))
        | none =>
          cases q2 : mlk x.d m1 with
          | some v2 =>
            have fs : bwS x.d m1 x.its[j] = mpP x.its[j].1 v2 m1 := by rw [bwS, gB, q1, gB, q2]; rfl
            rw [fs] at fj
            rw [q1, Option.map_none] at g1
            rw [q2, Option.map_some] at g2
            have pv := put_mpP AV.bool x.its[j].1 v2 m1
            simp -implicitDefEqProofs [be3, beC, beB, hj, ita, g1, g2, hm1, pv, wj]
            ((try simp only [be3, beC, beB, fj]); refine Weak.sub (by simp [lk, keptA, AV.keys, be3, beC, beB, fj]) ?_; simp only [be3, beC, beB, fj, List.cons_append, List.nil_append, List.mem_cons, List.not_mem_nil, or_false, forall_eq_or_imp, forall_eq, kept_mb, and_true]; (try simp [lk, keptO, keptA, AV.keys, be3, beC, beB, fj]))
          | none =>
            have fs : bwS x.d m1 x.its[j] = mpP x.its[j].1 false m1 := by rw [bwS, gB, q1, gB, q2]; rfl
            rw [fs] at fj
            rw [q1, Option.map_none] at g1
            rw [q2, Option.map_none] at g2
            simp -implicitDefEqProofs [be3, beC, beB, hj, ita, g1, g2, hm1, pf, wj]
            ((try simp only [be3, beC, beB, fj]); refine Weak.sub (by simp [lk, keptA, AV.keys, be3, beC, beB, fj]) ?_; simp only [be3, beC, beB, fj, List.cons_append, List.nil_append, List.mem_cons, List.not_mem_nil, or_false, forall_eq_or_imp, forall_eq, kept_mb, and_true]; (try simp [lk, keptO, keptA, AV.keys, be3, beC, beB, fj]))
      · intro _
        refine GO_AR mixed 1000 ?_
        simp -implicitDefEqProofs [be3, beC, beB]
        refine GO_ret mixed 1000 ?_
        simp -implicitDefEqProofs [wi]
        have ft2 : (r.take (i + 1)).foldl bwX (bwN r D k) = (x.its.take x.its.length).foldl (bwS x.d) m0 := by rw [ft, List.take_length]; rfl
        ((try simp only [be2, beC, beB, ft2, List.take_length]); refine Weak.sub (by simp [lk, keptA, AV.keys, be2, beC, beB, ft2, List.take_length]) ?_; simp only [be2, beC, beB, ft2, List.take_length, List.cons_append, List.nil_append, List.mem_cons, List.not_mem_nil, or_false, forall_eq_or_imp, forall_eq, kept_mb, and_true]; (try simp [lk, keptO, keptA, AV.keys, be2, beC, beB, ft2, List.take_length]))
    · intro _
      refine GO_AR mixed 1000 ?_
      simp -implicitDefEqProofs [be2, beC, beB]
      refine GO_ret mixed 1000 ?_
      simp -implicitDefEqProofs [wk]
      have e1 : r.foldl bwX (bwN r D k) = bwN r D (k + 1) := rfl
      ((try simp only [be1, beC, beB, List.take_length, e1]); refine Weak.sub (by simp [lk, keptA, AV.keys, be1, beC, beB, List.take_length, e1]) ?_; simp only [be1, beC, beB, List.take_length, e1, List.cons_append, List.nil_append, List.mem_cons, List.not_mem_nil, or_false, forall_eq_or_imp, forall_eq, kept_mb, and_true]; (try simp [lk, keptO, keptA, AV.keys, be1, beC, beB, List.take_length, e1]))
  intro _
  refine GO_AR mixed 1000 ?_
  simp -implicitDefEqProofs [be1, beC, beB]
  refine GO_ret mixed 1000 ?_
  simp -implicitDefEqProofs []
  refine AR_for (be4 r lt D) (fun _ => True) r.length ?_ trivial ?_ ?_
  · have e0 : lsN r D 0 = [] := rfl
    simp only [be4, e0, if_true]
    ((try simp only [beC, beB]); refine Weak.sub (by simp [lk, keptA, AV.keys, beC, beB]) ?_; simp only [beC, beB, List.cons_append, List.nil_append, List.mem_cons, List.not_mem_nil, or_false, forall_eq_or_imp, forall_eq, kept_mb, and_true]; (try simp [lk, keptO, keptA, AV.keys, beC, beB]))
  · intro i hi _
    refine GO_AR mixed 1000 ?_
    have wi : IntKind.i64.wrap ((i : Int) + 1) = (i : Int) + 1 := wrapI (by omega) (by omega)
    have ex : isa r[i] = [.int .i64 r[i].d, .int .i64 r[i].l, .int .u8 r[i].k, .vsl (r[i].its.map ita), .vsl (r[i].dms.map dma)] := rfl
    have g1 := get_mp AV.bool r[i].d (bwN r D 6)
    have sc := lsN_succ (d := D) hi
    have ln := lsN_len r D i
    have bb : ((lsN r D i).length + 1) * 72 ≤ 70368744177664 := by omega
    have eB : bwB r D r[i].d = (mlk r[i].d (bwN r D 6)).getD false := rfl
    rw [eB] at sc
    cases q : mlk r[i].d (bwN r D 6) with
    | none =>
      rw [q] at sc g1
      simp only [Option.getD_none, Option.map_none, Bool.false_eq_true, if_false] at sc g1
      by_cases e : lsN r D i = []
      · simp -implicitDefEqProofs [be4, beC, beB, e, hi, ex, g1, wi, sc]
        ((try simp only [and_true]); refine Weak.sub (by simp [lk, keptA, AV.keys, and_true]) ?_; simp only [and_true, List.cons_append, List.nil_append, List.mem_cons, List.not_mem_nil, or_false, forall_eq_or_imp, forall_eq, kept_mb, isa_kept, and_true]; (try simp [lk, keptO, keptA, AV.keys, and_true]))
      · simp -implicitDefEqProofs [be4, beC, beB, e, hi, ex, g1, wi, sc]
        ((try simp only [and_true]); refine Weak.sub (by simp [lk, keptA, AV.keys, and_true]) ?_; simp only [and_true, List.cons_append, List.nil_append, List.mem_cons, List.not_mem_nil, or_false, forall_eq_or_imp, forall_eq, kept_mb, isa_kept, and_true]; (try simp [lk, keptO, keptA, AV.keys, and_true]))
    | some v =>
      rw [q] at sc g1
      simp only [Option.getD_some, Option.map_some] at sc g1
      cases v with
      | false =>
        simp only [Bool.false_eq_true, if_false] at sc
        by_cases e : lsN r D i = []
        · simp -implicitDefEqProofs [be4, beC, beB, e, hi, ex, g1, wi, sc]
          ((try simp only [and_true]); refine Weak.sub (by simp [lk, keptA, AV.keys, and_true]) ?_; simp only [and_true, List.cons_append, List.nil_append, List.mem_cons, List.not_mem_nil, or_false, forall_eq_or_imp, forall_eq, kept_mb, isa_kept, and_true]; (try simp [lk, keptO, keptA, AV.keys, and_true]))
        · simp -implicitDefEqProofs [be4, beC, beB, e, hi, ex, g1, wi, sc]
          ((try simp only [and_true]); refine Weak.sub (by simp [lk, keptA, AV.keys, and_true]) ?_; simp only [and_true, List.cons_append, List.nil_append, List.mem_cons, List.not_mem_nil, or_false, forall_eq_or_imp, forall_eq, kept_mb, isa_kept, and_true]; (try simp [lk, keptO, keptA, AV.keys, and_true]))
      | true =>
        simp only [if_true] at sc
        by_cases e : lsN r D i = []
        · rw [e, List.nil_append] at sc
          simp -implicitDefEqProofs [be4, beC, beB, e, hi, ex, g1, wi, sc]
          ((try simp only [ex]); refine Weak.sub (by simp [lk, keptA, AV.keys, ex]) ?_; simp only [ex, List.cons_append, List.nil_append, List.mem_cons, List.not_mem_nil, or_false, forall_eq_or_imp, forall_eq, kept_mb, isa_kept, and_true]; (try simp [lk, keptO, keptA, AV.keys, ex]))
        · have e1 : (lsN r D i).map isa ++ [[AV.int .i64 r[i].d, AV.int .i64 r[i].l, AV.int .u8 r[i].k, AV.vsl (r[i].its.map ita), AV.vsl (r[i].dms.map dma)]] = (lsN r D (i + 1)).map isa := by rw [sc, List.map_append]; rfl
          have e2 : (lsN r D i).length + 1 = (lsN r D (i + 1)).length := by rw [sc]; simp
          have e3 : lsN r D (i + 1) ≠ [] := by rw [sc]; simp
          simp -implicitDefEqProofs [be4, beC, beB, e, e3, hi, ex, g1, wi, bb]
          rw [e1, e2]
          ((try simp only [and_true]); refine Weak.sub (by simp [lk, keptA, AV.keys, and_true]) ?_; simp only [and_true, List.cons_append, List.nil_append, List.mem_cons, List.not_mem_nil, or_false, forall_eq_or_imp, forall_eq, kept_mb, isa_kept, and_true]; (try simp [lk, keptO, keptA, AV.keys, and_true]))
  intro _
  refine GO_AR mixed 1000 ?_
  have eE : lsN r D r.length = lsR r D := by rw [lsN, List.take_length]; rfl
  simp -implicitDefEqProofs [be4, beC, beB, eE, hlne]
  refine GO_ret mixed 1000 ?_
  simp -implicitDefEqProofs []
  (first | refine CallK.of (hnm) (by simp) ?_ | refine CallD.of (hnm) (by simp) ?_)
  simp -implicitDefEqProofs []
  refine AR_for (be5 r lt D) (fun _ => True) (nums r).length ?_ trivial ?_ ?_
  · have e0 : owL r lt D 0 = [] := rfl
    simp only [be5, e0, if_true]
    ((try simp only [beC, beB]); refine Weak.sub (by simp [lk, keptA, AV.keys, beC, beB]) ?_; simp only [beC, beB, List.cons_append, List.nil_append, List.mem_cons, List.not_mem_nil, or_false, forall_eq_or_imp, forall_eq, kept_mb, isa_kept, and_true]; (try simp [lk, keptO, keptA, AV.keys, beC, beB]))
  · intro i hi _
    refine GO_AR mixed 1000 ?_
    have wi : IntKind.i64.wrap ((i : Int) + 1) = (i : Int) + 1 := wrapI (by omega) (by omega)
    have g1 := get_mp AV.bool (nums r)[i] (bwN r D 6)
    have sc := owL_succ (r := r) (d := D) (lt := lt) hi
    have ln := owL_len r lt D i
    have bb : ((owL r lt D i).length + 1) * 8 ≤ 70368744177664 := by omega
    have hil : i < lt.length := by omega
    have lk1 := ltk i hi hil
    have eB : bwB r D (nums r)[i] = (mlk (nums r)[i] (bwN r D 6)).getD false := rfl
    rw [eB] at sc
    cases q : mlk (nums r)[i] (bwN r D 6) with
    | none =>
      rw [q] at sc g1
      simp only [Option.getD_none, Option.map_none, Bool.false_eq_true, if_false] at sc g1
      by_cases e : owL r lt D i = []
      · simp -implicitDefEqProofs [be5, beC, beB, e, hi, ia, g1, wi, sc]
        ((try simp only [and_true]); refine Weak.sub (by simp [lk, keptA, AV.keys, and_true]) ?_; simp only [and_true, List.cons_append, List.nil_append, List.mem_cons, List.not_mem_nil, or_false, forall_eq_or_imp, forall_eq, kept_mb, isa_kept, ia_kept, and_true]; (try simp [lk, keptO, keptA, AV.keys, and_true]))
      · simp -implicitDefEqProofs [be5, beC, beB, e, hi, ia, g1, wi, sc]
        ((try simp only [and_true]); refine Weak.sub (by simp [lk, keptA, AV.keys, and_true]) ?_; simp only [and_true, List.cons_append, List.nil_append, List.mem_cons, List.not_mem_nil, or_false, forall_eq_or_imp, forall_eq, kept_mb, isa_kept, ia_kept, and_true]; (try simp [lk, keptO, keptA, AV.keys, and_true]))
    | some v =>
      rw [q] at sc g1
      simp only [Option.getD_some, Option.map_some] at sc g1
      cases v with
      | false =>
        simp only [Bool.false_eq_true, if_false] at sc
        by_cases e : owL r lt D i = []
        · simp -implicitDefEqProofs [be5, beC, beB, e, hi, ia, g1, wi, sc]
          ((try simp only [and_true]); refine Weak.sub (by simp [lk, keptA, AV.keys, and_true]) ?_; simp only [and_true, List.cons_append, List.nil_append, List.mem_cons, List.not_mem_nil, or_false, forall_eq_or_imp, forall_eq, kept_mb, isa_kept, ia_kept, and_true]; (try simp [lk, keptO, keptA, AV.keys, and_true]))
        · simp -implicitDefEqProofs [be5, beC, beB, e, hi, ia, g1, wi, sc]
          ((try simp only [and_true]); refine Weak.sub (by simp [lk, keptA, AV.keys, and_true]) ?_; simp only [and_true, List.cons_append, List.nil_append, List.mem_cons, List.not_mem_nil, or_false, forall_eq_or_imp, forall_eq, kept_mb, isa_kept, ia_kept, and_true]; (try simp [lk, keptO, keptA, AV.keys, and_true]))
      | true =>
        simp only [if_true] at sc
        by_cases e : owL r lt D i = []
        · rw [e, List.nil_append] at sc
          simp -implicitDefEqProofs [be5, beC, beB, e, hi, hil, lk1, ia, g1, wi, sc]
          ((try simp only [ia]); refine Weak.sub (by simp [lk, keptA, AV.keys, ia]) ?_; simp only [ia, List.cons_append, List.nil_append, List.mem_cons, List.not_mem_nil, or_false, forall_eq_or_imp, forall_eq, kept_mb, isa_kept, ia_kept, and_true]; (try simp [lk, keptO, keptA, AV.keys, ia]))
        · simp -implicitDefEqProofs [be5, beC, beB, e, hi, hil, lk1, ia, g1, wi, sc, bb]
          ((try simp only [ia]); refine Weak.sub (by simp [lk, keptA, AV.keys, ia]) ?_; simp only [ia, List.cons_append, List.nil_append, List.mem_cons, List.not_mem_nil, or_false, forall_eq_or_imp, forall_eq, kept_mb, isa_kept, ia_kept, and_true]; (try simp [lk, keptO, keptA, AV.keys, ia]))
  intro _
  refine GO_AR mixed 1000 ?_
  have onE : owL r lt D (nums r).length ≠ [] := by rw [hoe]; simpa using hnne
  rw [← hoe] at hex2 htr2
  have pu1 := isa_pure (lsR r D)
  have pu2 : ((owL r lt D (nums r).length).map ia).all (fun r => r.all AV.pure) = true := by simp [ia, AV.pure]
  generalize hOW : owL r lt D (nums r).length = ow at *
  generalize hLS : lsR r D = ls at *
  simp -implicitDefEqProofs [be5, beC, beB, hOW, hLS, onE]
  refine GO_ret mixed 2 ?_
  simp -implicitDefEqProofs []
  refine GO0 (AR_weak (st' := ⟨[(3, .ptr 3 0), (7, .bool true), (8, .vsl (lt.map ia)), (9, .int .i64 D), (15, .ptr 15 0), (18, .vsl (ow.map ia))], [(3, .box [.vsl (r.map isa)]), (15, .box [.vsl (ls.map isa)])]⟩) (Weak.trans (Weak.frz (fun k => k == 98 || k == 118) _) ?_) ?_)
  · ((try simp only [frzSt, frzA, frzO, frz, snapF, snapL, St.get, pu1, pu2]); refine Weak.sub (by simp [lk, keptA, AV.keys, frzSt, frzA, frzO, frz, snapF, snapL, St.get, pu1, pu2]) ?_; simp only [frzSt, frzA, frzO, frz, snapF, snapL, St.get, pu1, pu2, List.cons_append, List.nil_append, List.mem_cons, List.not_mem_nil, or_false, forall_eq_or_imp, forall_eq, and_true, and_true]; (try simp [lk, keptO, keptA, AV.keys, frzSt, frzA, frzO, frz, snapF, snapL, St.get, pu1, pu2]))
  refine GO_AR mixed 1000 ?_
  simp -implicitDefEqProofs []
  (first | refine CallK.of (hex) (by simp) ?_ | refine CallD.of (hex) (by simp) ?_)
  simp -implicitDefEqProofs []
  (first | refine CallK.of (hex2) (by simp) ?_ | refine CallD.of (hex2) (by simp) ?_)
  simp -implicitDefEqProofs []
  (first | refine CallK.of (htr) (by simp) ?_ | refine CallD.of (htr) (by simp) ?_)
  simp -implicitDefEqProofs []
  (first | refine CallK.of (htr2) (by simp) ?_ | refine CallD.of (htr2) (by simp) ?_)
  simp -implicitDefEqProofs []
  (first | refine CallK.of (hdp) (by simp) ?_ | refine CallD.of (hdp) (by simp) ?_)
  simp -implicitDefEqProofs []
  (first | refine CallK.of (hdp2) (by simp) ?_ | refine CallD.of (hdp2) (by simp) ?_)
  simp -implicitDefEqProofs []
  (first | refine CallK.of (hsi) (by simp) ?_ | refine CallD.of (hsi) (by simp) ?_)
  simp -implicitDefEqProofs []
  (first | refine CallK.of (hsb) (by simp) ?_ | refine CallD.of (hsb) (by simp) ?_)
  simp -implicitDefEqProofs []
  (first | refine CallK.of (hck) (by simp) ?_ | refine CallD.of (hck) (by simp) ?_)
  simp -implicitDefEqProofs []
  refine GO_ret mixed 1000 ?_
  simp -implicitDefEqProofs []
end
end Go.Proofs.YtdpmioiamcgfkaaDoor

