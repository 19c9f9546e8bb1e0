/-
  The stable sort's blocks: plain.
-/
import Derived.Test.YtdpmioiamcgfkaaDoorJFfToIg
import Derived.Test.YtdpmioiamcgfkaaDoorJEfToGf
import Derived.Test.YtdpmioiamcgfkaaDoorJAmOToMath
import Derived.Test.YtdpmioiamcgfkaaDoorProg
import Derived.Test.YtdpmioiamcgfkaaDoorJRcLToRcB
set_option linter.unusedSimpArgs false
set_option linter.unusedVariables false
namespace Go.Proofs.YtdpmioiamcgfkaaDoor
open Go.RowKit

theorem srtS_pre {q : List Iss} {a b x y : Nat} (h : y ≤ a) (ha : a ≤ q.length) : ((srtS q a b).take y).drop x = (q.take y).drop x := by
  have e : (srtS q a b).take y = q.take y := by
    rw [srtS, List.take_append_of_le_length (by simp; omega), List.take_take, Nat.min_eq_left h]
  rw [e]
theorem srtS_post {q : List Iss} {a b x y : Nat} (h0 : a ≤ b) (hb : b ≤ q.length) (h : b ≤ x) : ((srtS q a b).take y).drop x = (q.take y).drop x :=
  (srt_right (q := q) (a := a) (c := b) (e := x) (b := y) h0 h hb).2
theorem srtS_mid {q : List Iss} {a b : Nat} (h0 : a ≤ b) (hb : b ≤ q.length) : ((srtS q a b).take b).drop a = sortN ((q.take b).drop a) := by
  have e : (srtS q a b).take b = q.take a ++ sortN ((q.take b).drop a) := by
    rw [srtS, ← List.append_assoc]
    exact List.take_left' (by rw [List.length_append, sortN_len]; simp; omega)
  rw [e]
  exact List.drop_left' (by simp; omega)
/-- The first blocks are in order. -/
def BlkS (bs : Nat) (q : List Iss) (i : Nat) : Prop := ∀ j, j < i → SrtN ((q.take (bs * j + bs)).drop (bs * j))
/-- The blocks from one on are. -/
def BlkF (bs : Nat) (q : List Iss) (i : Nat) : Prop := ∀ j, i ≤ j → SrtN ((q.take (bs * j + bs)).drop (bs * j))
theorem blk_le {bs j i : Nat} (h : j < i) : bs * j + bs ≤ bs * i := by
  have := Nat.mul_le_mul_left bs (Nat.succ_le_of_lt h)
  rwa [Nat.mul_succ] at this
theorem blk_step {bs i : Nat} {q : List Iss} (h : BlkS bs q i) (hl : bs * i + bs ≤ q.length) : BlkS bs (srtS q (bs * i) (bs * i + bs)) (i + 1) := fun j hj => by
  rcases Nat.lt_or_ge j i with h1 | h1
  · rw [srtS_pre (blk_le h1) (by omega)]; exact h j h1
  · obtain rfl : j = i := by omega
    rw [srtS_mid (by omega) hl]; exact sortN_srt _
theorem blk_end {bs i : Nat} {q : List Iss} (h : BlkS bs q i) (h1 : bs * i ≤ q.length) (h2 : q.length ≤ bs * i + bs) : ∀ k, BlkS bs (srtS q (bs * i) q.length) k := fun k j _ => by
  have hl : (srtS q (bs * i) q.length).length = q.length := srtS_len h1 (Nat.le_refl _)
  rcases Nat.lt_trichotomy j i with hj | hj | hj
  · rw [srtS_pre (blk_le hj) h1]; exact h j hj
  · subst hj
    have e : (srtS q (bs * j) q.length).take (bs * j + bs) = (srtS q (bs * j) q.length).take q.length := by rw [List.take_of_length_le (by omega), List.take_of_length_le (by omega)]
    rw [e, srtS_mid h1 (Nat.le_refl _)]; exact sortN_srt _
  · have := blk_le (bs := bs) hj
    rw [List.drop_of_length_le (by simp; omega)]; exact List.Pairwise.nil
theorem blk_two {bs i : Nat} : bs * (2 * i) = 2 * bs * i ∧ bs * (2 * i + 1) = 2 * bs * i + bs ∧ bs * (2 * (i + 1)) = 2 * bs * i + 2 * bs := by
  have e : bs * (2 * i) = 2 * bs * i := by rw [Nat.mul_comm 2 bs, Nat.mul_assoc]
  refine ⟨e, by rw [Nat.mul_add, e, Nat.mul_one], ?_⟩
  rw [Nat.mul_add 2 i 1, Nat.mul_add, e, Nat.mul_one, Nat.mul_comm bs 2]
theorem blk_small {bs i : Nat} {q : List Iss} (h : BlkF bs q (2 * i)) : SrtN ((q.take (2 * bs * i + bs)).drop (2 * bs * i)) ∧ SrtN ((q.take (2 * bs * i + 2 * bs)).drop (2 * bs * i + bs)) := by
  obtain ⟨e1, e2, -⟩ := blk_two (bs := bs) (i := i)
  have h1 := h (2 * i) (Nat.le_refl _)
  have h2 := h (2 * i + 1) (by omega)
  rw [e1] at h1
  rw [e2] at h2
  refine ⟨h1, ?_⟩
  rw [show 2 * bs * i + 2 * bs = 2 * bs * i + bs + bs by omega]
  exact h2
theorem blk_keep {bs i : Nat} {q : List Iss} (h : BlkF bs q (2 * i)) (hl : 2 * bs * i + 2 * bs ≤ q.length) : BlkF bs (srtS q (2 * bs * i) (2 * bs * i + 2 * bs)) (2 * (i + 1)) := fun j hj => by
  have e := (blk_two (bs := bs) (i := i)).2.2
  have h2 := Nat.mul_le_mul_left bs hj
  rw [srtS_post (by omega) hl (by omega)]
  exact h j (by omega)
theorem blk_rest {bs i : Nat} {q : List Iss} (h : BlkS (2 * bs) q i) (hf : BlkF bs q (2 * i)) (hl : q.length ≤ 2 * bs * i + bs) : ∀ k, BlkS (2 * bs) q k := fun k j _ => by
  rcases Nat.lt_trichotomy j i with hj | hj | hj
  · exact h j hj
  · subst hj
    have := (blk_small hf).1
    rw [List.take_of_length_le hl] at this
    rw [List.take_of_length_le (by omega)]
    exact this
  · have := blk_le (bs := 2 * bs) hj
    rw [List.drop_of_length_le (by simp; omega)]; exact List.Pairwise.nil
theorem blk_all {bs : Nat} {q : List Iss} (h : ∀ k, BlkS bs q k) (hl : q.length ≤ bs) : SrtN q := by
  have := h 1 0 (by omega)
  rw [Nat.mul_zero, List.drop_zero, List.take_of_length_le (by omega)] at this
  exact this
theorem blk_F {bs i : Nat} {q : List Iss} (h : ∀ k, BlkS bs q k) : BlkF bs q i := fun j _ => h (j + 1) j (by omega)
end Go.Proofs.YtdpmioiamcgfkaaDoor

/-! The stable sort, by the abstract machine. -/
namespace Go.Proofs.YtdpmioiamcgfkaaDoor
open Go.RowKit
section
variable {G : Nat → Option (List AV)}

set_option maxHeartbeats 2000000 in
theorem stable_pb (l : List Iss) (hv : ∀ x ∈ l, okN x) (hin : InjN l) (h3 : l.length ≤ 500) :
    PB Tryd.prog G 116 [(1000, .row 5 (l.map isa))] [.osl 1000 l.length, .int .i64 l.length, fM1] (.tup []) [(1000, .row 5 ((sortN l).map isa))] := by
  (refine pb_slices_stableCmpFunc_api_Issue (Nat.le_of_ble_eq_true rfl) fun R hG hrd => GO_AR mixed 1000 ?_; subst hG)
  simp -implicitDefEqProofs [rc_slices_stableCmpFunc_api_Issue, rr_slices_stableCmpFunc_api_Issue, fM1]
  refine AR_loop (fun p : List Iss × Nat => ⟨[(8, .int .i64 ((p.2 : Int) + 20)), (7, .int .i64 p.2), (6, .int .i64 20), (0, .osl 1000 l.length), (1, .int .i64 l.length), (2, .func (.func 92) [] [])], [(1000, .row 5 (p.1.map isa))]⟩)
    (fun p => p.1.Perm l ∧ p.2 ≤ l.length ∧ ∃ i, p.2 = 20 * i ∧ BlkS 20 p.1 i) (fun p => l.length - p.2) (l, 0) ?_ ⟨List.Perm.refl _, Nat.zero_le _, 0, rfl, fun j hj => absurd hj (Nat.not_lt_zero _)⟩ ?_
  · ((try simp only [and_true]); refine Weak.sub (by simp [lk, keptA, AV.keys, and_true]) ?_; simp only [and_true, List.cons_append, List.nil_append, List.mem_cons, List.not_mem_nil, or_false, forall_eq_or_imp, forall_eq, isa_kept, and_true]; (try simp [lk, keptO, keptA, AV.keys, and_true]))
  rintro ⟨q, A⟩ ⟨hp, hA, i, hi, hb⟩
  simp only at hp hA hi hb
  refine GO_AR mixed 1000 ?_
  have hql := hp.length_eq
  have qv := okN_perm hp hv
  have qi : InjN q := hin.perm hp.symm
  by_cases k1 : A + 20 ≤ l.length
  · have k1' : (A : Int) + 20 ≤ l.length := by omega
    have hc := insert_pb (G := R.G) q A (A + 20) qv qi (by omega) (by omega) (by omega)
    rw [show ((A + 20 : Nat) : Int) = (A : Int) + 20 by omega, hql] at hc
    have w1 : IntKind.i64.wrap ((A : Int) + 20 + 20) = (A : Int) + 20 + 20 := wrapI (by omega) (by omega)
    have ps := (srtS_perm (l := q) (a := A) (b := A + 20) (by omega)).trans hp
    have hb2 := blk_step hb (by omega)
    rw [← hi] at hb2
    generalize hq2 : srtS q A (A + 20) = q2 at *
    simp -implicitDefEqProofs [k1']
    refine CallK.sem (CallSem.byref hc id (by simp) (by simp) (by simp [St.get, lk, isa_ren]) (by simp [isa_kept]) (by simp [keptA, AV.keys, lk, fM1]) rfl (by simp [AV.ren, fM1]) rfl rfl) ?_
    simp -implicitDefEqProofs [setsB, isa_ren, w1]
    refine ⟨(q2, A + 20), ?_, ⟨ps, k1, i + 1, by simp only; omega, hb2⟩, by simp only; omega⟩
    ((try simp only [and_true]); refine Weak.sub (by simp [lk, keptA, AV.keys, and_true]) ?_; simp only [and_true, List.cons_append, List.nil_append, List.mem_cons, List.not_mem_nil, or_false, forall_eq_or_imp, forall_eq, isa_kept, and_true]; (try simp [lk, keptO, keptA, AV.keys, and_true]))
  · have k1' : ¬ (A : Int) + 20 ≤ l.length := by omega
    have hc := insert_pb (G := R.G) q A l.length qv qi (by omega) (by omega) (by omega)
    rw [hql] at hc
    have ps := (srtS_perm (l := q) (a := A) (b := l.length) (by omega)).trans hp
    have hb2 := blk_end hb (by omega) (by omega)
    rw [← hi, hql] at hb2
    generalize hq2 : srtS q A l.length = q2 at *
    simp -implicitDefEqProofs [k1']
    refine GO_ret mixed 1000 ?_
    simp -implicitDefEqProofs []
    refine CallK.sem (CallSem.byref hc id (by simp) (by simp) (by simp [St.get, lk, isa_ren]) (by simp [isa_kept]) (by simp [keptA, AV.keys, lk, fM1]) rfl (by simp [AV.ren, fM1]) rfl rfl) ?_
    simp -implicitDefEqProofs [setsB, isa_ren]
    refine AR_loop (fun p : List Iss × Nat => ⟨[(6, .int .i64 p.2), (0, .osl 1000 l.length), (1, .int .i64 l.length), (2, .func (.func 92) [] [])], [(1000, .row 5 (p.1.map isa))]⟩)
      (fun p => p.1.Perm l ∧ 20 ≤ p.2 ∧ ∀ k, BlkS p.2 p.1 k) (fun p => l.length - p.2) (q2, 20) ?_ ⟨ps, Nat.le_refl _, hb2⟩ ?_
    · ((try simp only [and_true]); refine Weak.sub (by simp [lk, keptA, AV.keys, and_true]) ?_; simp only [and_true, List.cons_append, List.nil_append, List.mem_cons, List.not_mem_nil, or_false, forall_eq_or_imp, forall_eq, isa_kept, and_true]; (try simp [lk, keptO, keptA, AV.keys, and_true]))
    clear hc ps hb2 hq2 hql qv qi k1 k1' hp hA hi hb
    clear q2 q A i
    rintro ⟨q, bs⟩ ⟨hp, h20, hb⟩
    simp only at hp h20 hb
    refine GO_AR mixed 1000 ?_
    by_cases k1 : bs < l.length
    · have w0 : IntKind.i64.wrap (2 * (bs : Int)) = 2 * (bs : Int) := wrapI (by omega) (by omega)
      have w9 : IntKind.i64.wrap ((bs : Int) * 2) = 2 * (bs : Int) := by rw [wrapI (by omega) (by omega)]; omega
      simp -implicitDefEqProofs [k1, w0]
      refine AR_loop (fun p : List Iss × Nat => ⟨[(8, .int .i64 ((p.2 : Int) + 2 * (bs : Int))), (7, .int .i64 p.2), (6, .int .i64 bs), (0, .osl 1000 l.length), (1, .int .i64 l.length), (2, .func (.func 92) [] [])], [(1000, .row 5 (p.1.map isa))]⟩)
        (fun p => p.1.Perm l ∧ p.2 ≤ l.length ∧ ∃ i, p.2 = 2 * bs * i ∧ BlkS (2 * bs) p.1 i ∧ BlkF bs p.1 (2 * i)) (fun p => l.length - p.2) (q, 0) ?_ ⟨hp, Nat.zero_le _, 0, rfl, fun j hj => absurd hj (Nat.not_lt_zero _), blk_F hb⟩ ?_
      · ((try simp only [and_true]); refine Weak.sub (by simp [lk, keptA, AV.keys, and_true]) ?_; simp only [and_true, List.cons_append, List.nil_append, List.mem_cons, List.not_mem_nil, or_false, forall_eq_or_imp, forall_eq, isa_kept, and_true]; (try simp [lk, keptO, keptA, AV.keys, and_true]))
      rintro ⟨q, A⟩ ⟨hp, hA, i, hi, hb, hf⟩
      simp only at hp hA hi hb hf
      refine GO_AR mixed 1000 ?_
      have hql := hp.length_eq
      have qv := okN_perm hp hv
      have qi : InjN q := hin.perm hp.symm
      obtain ⟨sm1, sm2⟩ := blk_small hf
      rw [← hi] at sm1 sm2
      by_cases k2 : A + 2 * bs ≤ l.length
      · have k2' : (A : Int) + 2 * (bs : Int) ≤ l.length := by omega
        have hc := sym_pb (G := R.G) q.length q A (A + bs) (A + 2 * bs) (by omega) qv qi (by omega) (by omega) (by omega) (by omega) sm1 sm2
        rw [show ((A + 2 * bs : Nat) : Int) = (A : Int) + 2 * (bs : Int) by omega, show ((A + bs : Nat) : Int) = (A : Int) + bs by omega, hql] at hc
        have w1 : IntKind.i64.wrap ((A : Int) + bs) = (A : Int) + bs := wrapI (by omega) (by omega)
        have w2 : IntKind.i64.wrap ((A : Int) + 2 * (bs : Int) + 2 * (bs : Int)) = (A : Int) + 2 * (bs : Int) + 2 * (bs : Int) := wrapI (by omega) (by omega)
        have ps := (srtS_perm (l := q) (a := A) (b := A + 2 * bs) (by omega)).trans hp
        have hb2 := blk_step hb (by omega)
        have hf2 := blk_keep hf (by omega)
        rw [← hi] at hb2 hf2
        generalize hq2 : srtS q A (A + 2 * bs) = q2 at *
        simp -implicitDefEqProofs [k2', w0, w1]
        refine CallK.sem (CallSem.byref hc id (by simp) (by simp) (by simp [St.get, lk, isa_ren]) (by simp [isa_kept]) (by simp [keptA, AV.keys, lk, fM1]) rfl (by simp [AV.ren, fM1]) rfl rfl) ?_
        simp -implicitDefEqProofs [setsB, isa_ren, w0, w2]
        refine ⟨(q2, A + 2 * bs), ?_, ⟨ps, k2, i + 1, by simp only; rw [Nat.mul_succ]; omega, hb2, hf2⟩, by simp only; omega⟩
        ((try simp only [and_true]); refine Weak.sub (by simp [lk, keptA, AV.keys, and_true]) ?_; simp only [and_true, List.cons_append, List.nil_append, List.mem_cons, List.not_mem_nil, or_false, forall_eq_or_imp, forall_eq, isa_kept, and_true]; (try simp [lk, keptO, keptA, AV.keys, and_true]))
      · have k2' : ¬ (A : Int) + 2 * (bs : Int) ≤ l.length := by omega
        have w1 : IntKind.i64.wrap ((A : Int) + bs) = (A : Int) + bs := wrapI (by omega) (by omega)
        by_cases k3 : A + bs < l.length
        · have k3' : (A : Int) + bs < l.length := by omega
          have e1 : q.take (A + 2 * bs) = q.take l.length := by rw [List.take_of_length_le (by omega), List.take_of_length_le (by omega)]
          rw [e1] at sm2
          have hc := sym_pb (G := R.G) q.length q A (A + bs) l.length (by omega) qv qi (by omega) (by omega) (by omega) (by omega) sm1 sm2
          rw [show ((A + bs : Nat) : Int) = (A : Int) + bs by omega, hql] at hc
          have ps := (srtS_perm (l := q) (a := A) (b := l.length) (by omega)).trans hp
          have hb2 := blk_end hb (by omega) (by omega)
          rw [← hi, hql] at hb2
          generalize hq2 : srtS q A l.length = q2 at *
          simp -implicitDefEqProofs [k2']
          refine GO_ret mixed 1000 ?_
          simp -implicitDefEqProofs [w1, k3']
          refine CallK.sem (CallSem.byref hc id (by simp) (by simp) (by simp [St.get, lk, isa_ren]) (by simp [isa_kept]) (by simp [keptA, AV.keys, lk, fM1]) rfl (by simp [AV.ren, fM1]) rfl rfl) ?_
          simp -implicitDefEqProofs [setsB, isa_ren, w9]
          refine ⟨(q2, 2 * bs), ?_, ⟨ps, by simp only; omega, hb2⟩, by simp only; omega⟩
          ((try simp only [and_true]); refine Weak.sub (by simp [lk, keptA, AV.keys, and_true]) ?_; simp only [and_true, List.cons_append, List.nil_append, List.mem_cons, List.not_mem_nil, or_false, forall_eq_or_imp, forall_eq, isa_kept, and_true]; (try simp [lk, keptO, keptA, AV.keys, and_true]))
        · have k3' : ¬ (A : Int) + bs < l.length := by omega
          have hb2 := blk_rest hb hf (by omega)
          simp -implicitDefEqProofs [k2']
          refine GO_ret mixed 1000 ?_
          simp -implicitDefEqProofs [w1, k3', w9]
          refine ⟨(q, 2 * bs), ?_, ⟨hp, by simp only; omega, hb2⟩, by simp only; omega⟩
          ((try simp only [and_true]); refine Weak.sub (by simp [lk, keptA, AV.keys, and_true]) ?_; simp only [and_true, List.cons_append, List.nil_append, List.mem_cons, List.not_mem_nil, or_false, forall_eq_or_imp, forall_eq, isa_kept, and_true]; (try simp [lk, keptO, keptA, AV.keys, and_true]))
    · have hs := blk_all hb (by rw [hp.length_eq]; omega)
      have he : sortN l = q := sortN_eq hin hp hs
      simp -implicitDefEqProofs [k1]
      refine GO_ret mixed 1000 ?_
      simp -implicitDefEqProofs []
      refine ⟨[], rfl, rfl, ?_⟩
      simp [frzSt, newK, frz_isa, he]

theorem sort_pb (l : List Iss) (hv : ∀ x ∈ l, okN x) (hin : InjN l) (h3 : l.length ≤ 500) :
    PB Tryd.prog G 91 [(1000, .row 5 (l.map isa))] [.osl 1000 l.length, fM1] (.tup []) [(1000, .row 5 ((sortN l).map isa))] := by
  (refine pb_slices_SortStableFunc_api_Issue_api_Issue (Nat.le_of_ble_eq_true rfl) fun R hG hrd => GO_AR mixed 1000 ?_; subst hG)
  simp -implicitDefEqProofs [rc_slices_SortStableFunc_api_Issue_api_Issue, rr_slices_SortStableFunc_api_Issue_api_Issue, fM1]
  refine CallK.sem (CallSem.byref (stable_pb l hv hin h3) id (by simp) (by simp) (by simp [St.get, lk, isa_ren]) (by simp [isa_kept]) (by simp [keptA, AV.keys, lk, fM1]) rfl (by simp [AV.ren, fM1]) rfl rfl) ?_
  simp -implicitDefEqProofs [setsB, isa_ren]
  refine ⟨[], rfl, rfl, ?_⟩
  simp [frzSt, newK, frz_isa]
end
end Go.Proofs.YtdpmioiamcgfkaaDoor

/-! Registers of any size put together, by the abstract machine. -/
namespace Go.Proofs.YtdpmioiamcgfkaaDoor
open Go.RowKit

section
variable {G : Nat → Option (List AV)}

set_option maxHeartbeats 1000000 in
theorem merge_pc (hG : GC G) (a b : List Iss) (ha : Wf a) (hb : Wf b) : PC Tryd.prog G 49 [rega a, rega b] (.tup [rega (mgE a b).1, .int .i64 (mgE a b).2]) := by
  obtain ⟨bk, hcl⟩ := clash_pc hG a b ha hb
  by_cases k0 : bothE a b = 0
  case neg =>
    refine PC.nzR (v := .tup [.agg [.nils], .int .i64 (bothE a b)]) ?_ (by simp [nz, mgE, k0, rega])
    (refine pc_sheet_Merge (Nat.le_of_ble_eq_true rfl) fun R hG hrd => GO_AR mixed 1000 ?_; subst hG)
    simp -implicitDefEqProofs [rc_sheet_Merge, rr_sheet_Merge, rega]
    rw [rega, rega] at hcl
    (first | refine CallK.of (hcl) (by simp) ?_ | refine CallD.of (hcl) (by simp) ?_)
    simp -implicitDefEqProofs [k0]
  by_cases k1 : clN a b a.length = []
  case neg =>
    refine PC.nzR (v := .tup [.agg [.nils], .int .i64 23]) ?_ (by simp [nz, mgE, k0, k1, rega])
    have ev : clE a b = clN a b a.length := by simp [clE, k0]
    have hl : 0 < (clN a b a.length).length := List.length_pos_iff.2 k1
    (refine pc_sheet_Merge (Nat.le_of_ble_eq_true rfl) fun R hG hrd => GO_AR mixed 1000 ?_; subst hG)
    simp -implicitDefEqProofs [rc_sheet_Merge, rr_sheet_Merge, rega]
    rw [rega, rega, ev] at hcl
    (first | refine CallK.of (hcl) (by simp) ?_ | refine CallD.of (hcl) (by simp) ?_)
    simp -implicitDefEqProofs [k0, hl]
  have ev : clE a b = [] := by simp [clE, k0, k1]
  have oa : openV a = 0 := by
    unfold bothE at k0; split at k0
    · assumption
    · exact k0
  have ob : openV b = 0 := by simpa [bothE, oa] using k0
  have la := open_listed oa
  have lb := open_listed ob
  have sa := listed_60 la
  have sb := listed_60 lb
  have na : a ≠ [] := by rintro rfl; simp at sa
  have nb : b ≠ [] := by rintro rfl; simp at sb
  have hwf := mgL_wf ha hb (by omega) (by omega)
  have hin := mg_inj la lb k1
  have hok : ∀ x ∈ a ++ b, okN x := fun x hx => by
    rcases List.mem_append.1 hx with h | h
    · exact listed_okN la x h
    · exact listed_okN lb x h
  have hcc := concat_pc (G := G) a b na nb (by omega) (by omega)
  have hwx : ∀ x ∈ a ++ b, Sml x.its ∧ Sml x.dms := fun x hx => by
    rcases List.mem_append.1 hx with h | h
    · exact ha.1.2 x h
    · exact hb.1.2 x h
  have hll : (a ++ b).length ≤ 500 := by rw [List.length_append]; omega
  have hl0 : 0 < (a ++ b).length := by rw [List.length_append]; omega
  have hsp := sort_pb (G := G) (a ++ b) hok hin hll
  have hcp := compact_pb (G := G) (sortN (a ++ b)) (by rw [sortN_len]; omega)
  have hck := checkP_pc hG (mgL a b) hwf
  have hmv : mgE a b = if openV (mgL a b) = 0 then (mgL a b, 0) else ([], openV (mgL a b)) := by simp [mgE, k0, k1]
  have hcm : cmpct (sortN (a ++ b)) = mgL a b := rfl
  have hmn := mgL_len a b
  rw [hmv]
  rw [rega, rega, ev, k0] at hcl
  refine PC.nzR (v := .tup [.agg [if openV (mgL a b) = 0 then .vsl ((mgL a b).map isa) else .nils], .int .i64 (openV (mgL a b))]) ?_ (by by_cases ko : openV (mgL a b) = 0 <;> simp [nz, ko, rega])
  (refine pc_sheet_Merge (Nat.le_of_ble_eq_true rfl) fun R hG hrd => GO_AR mixed 1000 ?_; subst hG)
  simp -implicitDefEqProofs [rc_sheet_Merge, rr_sheet_Merge, rega]
  (first | refine CallK.of (hcl) (by simp) ?_ | refine CallD.of (hcl) (by simp) ?_)
  simp -implicitDefEqProofs []
  unfold ccA at hcc
  generalize a ++ b = l at *
  (first | refine CallK.of (hcc) (by simp) ?_ | refine CallD.of (hcc) (by simp) ?_)
  simp -implicitDefEqProofs []
  refine AR_for (fM l) (fun _ => True) l.length (by simp only [fM]; (first | exact Weak.tm (by simp [lk]) | exact Weak.sub (by simp [lk, keptA, AV.keys]) (by simp [lk, keptO, keptA, AV.keys]))) trivial ?_ ?_
  · intro i hi _
    refine GO_AR mixed 1000 ?_
    have hx := hwx l[i] (List.getElem_mem hi)
    have tk := twR_succ hi
    have ln := twR_len (Nat.le_of_lt hi)
    have cp := copied_pc (G := R.G) l[i] hx.1 hx.2
    have ex : isa l[i] = [.int .i64 l[i].d, .int .i64 l[i].l, .int .u8 l[i].k, .vsl (l[i].its.map ita), .vsl (l[i].dms.map dma)] := rfl
    rw [ex] at cp
    cases i with
    | zero =>
      have w1 : IntKind.i64.wrap 1 = 1 := rfl
      have tk0 : twR l 1 = [[.int .i64 l[0].d, .int .i64 l[0].l, .int .u8 l[0].k, .vsl (l[0].its.map ita), .vsl (l[0].dms.map dma)]] := by rw [tk]; simp [twR]
      simp -implicitDefEqProofs [fM, hi, ex]
      (first | refine CallK.of (cp) (by simp) ?_ | refine CallD.of (cp) (by simp) ?_)
      simp -implicitDefEqProofs [w1, fM]
      refine ⟨rfl, ?_⟩
      exact Weak.sub (by simp [lk, keptA, AV.keys]) (by simp [lk, keptO, keptA, AV.keys, tk0])
    | succ i =>
      have w1 : IntKind.i64.wrap ((i : Int) + 1 + 1) = (i : Int) + 1 + 1 := wrapI (by omega) (by omega)
      have k1 : (i : Int) + 1 < l.length := by omega
      have k2 : ((i : Int) + 1).toNat = i + 1 := by omega
      have k3 : (0 : Int) ≤ (i : Int) + 1 := by omega
      have b2 : (i + 1 + 1) * 72 ≤ 70368744177664 := by omega
      simp -implicitDefEqProofs [fM, hi, k1, k2, k3, ex]
      (first | refine CallK.of (cp) (by simp) ?_ | refine CallD.of (cp) (by simp) ?_)
      simp -implicitDefEqProofs [w1, b2, ln]
      refine ⟨rfl, ?_⟩
      refine Weak.sub (by simp [lk, keptA, AV.keys]) ?_
      simp only [List.mem_cons, List.not_mem_nil, or_false, forall_eq_or_imp, forall_eq, twR_kept, and_true]
      simp [lk, keptO, keptA, AV.keys, tk]
  · intro _
    refine GO_AR mixed 1000 ?_
    obtain ⟨n, hn⟩ : ∃ n, l.length = n + 1 := ⟨l.length - 1, by omega⟩
    have e1 : twR l (n + 1) = l.map isa := by rw [← hn, twR_end]
    have k1 : ¬ (n : Int) + 1 < n + 1 := by omega
    rw [hn]
    rw [hn] at hsp
    simp -implicitDefEqProofs [fM, hn, k1, e1]
    refine GO_ret mixed 1000 ?_
    simp -implicitDefEqProofs []
    refine CallK.sem (CallSem.byref hsp (fun _ => 44) (by simp) (by simp) (by simp [St.get, lk, isa_ren]) (by simp [isa_kept]) (by simp [keptA, AV.keys, lk, fM1]) rfl (by simp [AV.ren, fM1]) rfl rfl) ?_
    simp -implicitDefEqProofs [setsB, isa_ren]
    have ls : (sortN l).length = n + 1 := by rw [sortN_len, hn]
    rw [ls] at hcp
    refine CallK.sem (CallSem.byref hcp (fun _ => 44) (by simp) (by simp) (by simp [St.get, lk, isa_ren]) (by simp [isa_kept]) (by simp [keptA, AV.keys, lk, fM2]) rfl (by simp [AV.ren, fM2]) rfl rfl) ?_
    have hcv : cmpV 1000 (sortN l) = if (mgL a b).length = n + 1 then .osl 1000 (n + 1) else .oss 1000 (n + 1) 0 (mgL a b).length := by rw [cmpV, hcm, ls]
    have hco : cmpO (sortN l) = (mgL a b).map isa ++ List.replicate (n + 1 - (mgL a b).length) zrI := by rw [cmpO, hcm, ls]
    rw [hcv, hco]
    generalize mgL a b = m at *
    by_cases hm : m.length = n + 1
    · have hr : List.replicate (n + 1 - m.length) zrI = [] := by rw [hm, Nat.sub_self]; rfl
      rw [if_pos hm, hr, List.append_nil]
      have pu := isa_pure m
      rw [rega] at hck
      simp -implicitDefEqProofs [setsB, isa_ren, AV.ren]
      refine CallK.flat hck (by simp [AV.flat]) (by simp [pu, hm]) ?_
      by_cases ko : openV m = 0
      · simp -implicitDefEqProofs [ko, pu, hm]
      · simp -implicitDefEqProofs [ko]
    · rw [if_neg hm]
      have hml : m.length ≤ n + 1 := by
        have := kN_len (sortN l) (sortN l).length
        rw [← hcm, ← ls]; exact this
      have hRl : (m.map isa ++ List.replicate (n + 1 - m.length) zrI).length = n + 1 := by simp; omega
      have hRt : (m.map isa ++ List.replicate (n + 1 - m.length) zrI).take m.length = m.map isa := by rw [List.take_left']; simp
      have hRn : AObj.ren (fun _ => 44) (.row 5 (m.map isa ++ List.replicate (n + 1 - m.length) zrI)) = .row 5 (m.map isa ++ List.replicate (n + 1 - m.length) zrI) := by
        have h := isa_ren (fun _ => 44) m
        simp only [AObj.ren, AObj.row.injEq, true_and] at h ⊢
        rw [List.map_append, h]
        simp [zrI, AV.ren]
      generalize m.map isa ++ List.replicate (n + 1 - m.length) zrI = RR at *
      have pu := isa_pure m
      rw [rega] at hck
      simp -implicitDefEqProofs [setsB, hRn, AV.ren]
      refine CallK.flat hck (by simp [AV.flat]) (by simp [pu, hRl, hRt, hml]) ?_
      by_cases ko : openV m = 0
      · simp -implicitDefEqProofs [ko, pu, hRl, hRt, hml]
      · simp -implicitDefEqProofs [ko]
end
end Go.Proofs.YtdpmioiamcgfkaaDoor

/-! Registers that are merged: plain. -/
namespace Go.Proofs.YtdpmioiamcgfkaaDoor
open Go.RowKit

def SrtK (l : List Iss) : Prop := l.Pairwise fun x y => kyN x < kyN y
theorem SrtK.nodup {l : List Iss} (h : SrtK l) : l.Nodup := List.Pairwise.imp (fun {x y} (h : kyN x < kyN y) (e : x = y) => by subst e; omega) h
theorem listed_srt {r : List Iss} (h : listedB r = true) : SrtK r := List.pairwise_iff_getElem.2 fun i j hi hj hij => by
  have h1 := lex_at h hij hj
  rw [at_eq hi, at_eq hj] at h1
  obtain ⟨-, -, a1, a2⟩ := listed_okN h _ (List.getElem_mem hi)
  obtain ⟨-, -, b1, b2⟩ := listed_okN h _ (List.getElem_mem hj)
  unfold Lx at h1
  unfold kyN
  omega
theorem sm_key {x y : Iss} (hx : okN x) (hy : okN y) : smN x y = true ↔ kyN x = kyN y := by rw [kyN_eq hx hy, smN, decide_eq_true_eq]
theorem kN_from {l : List Iss} {x : Iss} : ∀ {p : Nat}, p ≤ l.length → x ∈ kN l p → ∃ j, ∃ h : j < l.length, j < p ∧ x = l[j]
  | 0, _, h => by cases h
  | p + 1, hp, h => by
    have hlt : p < l.length := by omega
    rw [kN] at h
    split at h
    · obtain ⟨j, h1, h2, h3⟩ := kN_from (by omega) h; exact ⟨j, h1, by omega, h3⟩
    · rcases List.mem_append.1 h with h | h
      · obtain ⟨j, h1, h2, h3⟩ := kN_from (by omega) h; exact ⟨j, h1, by omega, h3⟩
      · rw [List.mem_singleton] at h
        exact ⟨p, hlt, by omega, by rw [h, getD_lt hlt]⟩
theorem kN_srt {l : List Iss} (hs : SrtN l) (hv : ∀ x ∈ l, okN x) : ∀ {p : Nat}, p ≤ l.length → SrtK (kN l p)
  | 0, _ => List.Pairwise.nil
  | p + 1, hp => by
    have hlt : p < l.length := by omega
    have ih := kN_srt hs hv (p := p) (by omega)
    rw [kN]
    split
    · exact ih
    · rename_i hn
      rw [getD_lt hlt] at hn ⊢
      refine List.pairwise_append.2 ⟨ih, List.pairwise_singleton _ _, fun x hx y hy => ?_⟩
      rw [List.mem_singleton] at hy
      subst hy
      obtain ⟨j, hj, hjp, rfl⟩ := kN_from (by omega) hx
      obtain ⟨q, rfl⟩ : ∃ q, p = q + 1 := ⟨p - 1, by omega⟩
      have hq : q < l.length := by omega
      rw [Nat.add_sub_cancel, getD_lt hq] at hn
      have hpw := List.pairwise_iff_getElem.1 hs
      have h1 := hpw q (q + 1) hq hlt (by omega)
      have hne : kyN l[q + 1] ≠ kyN l[q] := fun e => hn ⟨by omega, (sm_key (hv _ (List.getElem_mem hlt)) (hv _ (List.getElem_mem hq))).2 e⟩
      rcases Nat.lt_or_ge j q with h2 | h2
      · have := hpw j q hj hq h2; omega
      · obtain rfl : j = q := by omega
        omega
theorem kN_all {l : List Iss} (hi : InjN l) (hv : ∀ x ∈ l, okN x) : ∀ {p : Nat}, p ≤ l.length → ∀ j (h : j < l.length), j < p → l[j] ∈ kN l p
  | 0, _, _, _, h => absurd h (Nat.not_lt_zero _)
  | p + 1, hp, j, hj, hjp => by
    have hlt : p < l.length := by omega
    have ih := fun j h1 h2 => kN_all hi hv (p := p) (by omega) j h1 h2
    rw [kN]
    split
    · rename_i hn
      rcases Nat.lt_or_ge j p with h1 | h1
      · exact ih j hj h1
      · obtain rfl : j = p := by omega
        have hq : j - 1 < l.length := by omega
        rw [getD_lt hlt, getD_lt hq] at hn
        have := hi _ (List.getElem_mem hlt) _ (List.getElem_mem hq) ((sm_key (hv _ (List.getElem_mem hlt)) (hv _ (List.getElem_mem hq))).1 hn.2)
        rw [this]
        exact ih _ hq (by have := hn.1; omega)
    · rw [getD_lt hlt]
      rcases Nat.lt_or_ge j p with h1 | h1
      · exact List.mem_append.2 (.inl (ih j hj h1))
      · obtain rfl : j = p := by omega
        exact List.mem_append.2 (.inr (List.mem_singleton_self _))
theorem mg_srt {a b : List Iss} (hv : ∀ x ∈ a ++ b, okN x) : SrtK (mgL a b) := kN_srt (sortN_srt _) (fun x hx => hv x (sortN_mem.1 hx)) (Nat.le_refl _)
theorem mg_mem {a b : List Iss} (hv : ∀ x ∈ a ++ b, okN x) (hi : InjN (a ++ b)) {x : Iss} : x ∈ mgL a b ↔ x ∈ a ∨ x ∈ b := by
  rw [← List.mem_append]
  refine ⟨mgL_mem, fun h => ?_⟩
  obtain ⟨j, hj, rfl⟩ := List.getElem_of_mem (sortN_mem.2 h)
  exact kN_all (hi.perm (sortN_perm _).symm) (fun x hx => hv x (sortN_mem.1 hx)) (Nat.le_refl _) j hj hj
theorem ok2 {a b : List Iss} (ha : listedB a = true) (hb : listedB b = true) : ∀ x ∈ a ++ b, okN x := fun x hx => (List.mem_append.1 hx).elim (listed_okN ha x) (listed_okN hb x)
theorem open_or (r : List Iss) : openV r = 0 ∨ openV r = 20 ∨ openV r = 21 := by
  unfold openV
  split
  · split
    · exact .inr (.inr rfl)
    · split
      · exact .inr (.inl rfl)
      · exact .inl rfl
  · exact .inr (.inl rfl)
theorem mg_both {a b : List Iss} (ha : openV a = 0) (hb : openV b = 0) : bothE a b = 0 := by rw [bothE, if_pos ha, hb]
/-- How many of the first issues are in the other register, too. -/
def cmN (a b : List Iss) (i : Nat) : Nat := ((a.take i).filter fun x => (findN x.d x.l b).isSome).length
theorem cmN_succ {a b : List Iss} {i : Nat} (h : i < a.length) : cmN a b (i + 1) = if (findN a[i].d a[i].l b).isSome = true then cmN a b i + 1 else cmN a b i := by
  unfold cmN
  rw [List.take_succ_eq_append_getElem h, List.filter_append, List.length_append]
  split
  · rename_i e; rw [List.filter_cons_of_pos (by simpa using e)]; rfl
  · rename_i e; rw [List.filter_cons_of_neg (by simpa using e)]; rfl
theorem cmN_le (a b : List Iss) (i : Nat) : cmN a b i ≤ i := Nat.le_trans (List.length_filter_le _ _) (by simp; omega)
theorem filter_two {α : Type} (p : α → Bool) : ∀ l : List α, l.length = (l.filter p).length + (l.filter fun x => !p x).length
  | [] => rfl
  | x :: l => by
    have ih := filter_two p l
    cases h : p x
    · rw [List.filter_cons_of_neg (by simp [h]), List.filter_cons_of_pos (by simp [h]), List.length_cons, List.length_cons]; omega
    · rw [List.filter_cons_of_pos (by simp [h]), List.filter_cons_of_neg (by simp [h]), List.length_cons, List.length_cons]; omega
theorem mg_count {a b : List Iss} (ha : listedB a = true) (hb : listedB b = true) (hi : InjN (a ++ b)) : (mgL a b).length + cmN a b a.length = a.length + b.length := by
  have na := (listed_srt ha).nodup
  have nb := (listed_srt hb).nodup
  have p1 : (mgL a b).Perm (a ++ b.filter fun y => !decide (y ∈ a)) := by
    refine (List.perm_ext_iff_of_nodup (mg_srt (ok2 ha hb)).nodup ?_).2 fun x => ?_
    · refine List.nodup_append.2 ⟨na, nb.filter _, fun x hx y hy e => ?_⟩
      subst e
      have := (List.mem_filter.1 hy).2
      simp [hx] at this
    · rw [mg_mem (ok2 ha hb) hi, List.mem_append, List.mem_filter]
      constructor
      · rintro (h | h)
        · exact .inl h
        · by_cases hx : x ∈ a
          · exact .inl hx
          · exact .inr ⟨h, by simp [hx]⟩
      · rintro (h | h)
        · exact .inl h
        · exact .inr h.1
  have p2 : (a.filter fun x => (findN x.d x.l b).isSome).Perm (b.filter fun y => decide (y ∈ a)) := by
    refine (List.perm_ext_iff_of_nodup (na.filter _) (nb.filter _)).2 fun x => ?_
    rw [List.mem_filter, List.mem_filter, decide_eq_true_eq]
    constructor
    · rintro ⟨h1, h2⟩
      obtain ⟨y, hy⟩ := Option.isSome_iff_exists.1 h2
      obtain ⟨g1, g2, g3⟩ := findN_mem hy
      obtain rfl := hi x (List.mem_append.2 (.inl h1)) y (List.mem_append.2 (.inr g1)) (by rw [kyN, kyN, g2, g3])
      exact ⟨g1, h1⟩
    · rintro ⟨h1, h2⟩
      exact ⟨h2, by rw [find_own hb x h1]; rfl⟩
  have e1 := p1.length_eq
  have e2 := p2.length_eq
  have e3 := filter_two (fun y => decide (y ∈ a)) b
  rw [List.length_append] at e1
  rw [cmN, List.take_length]
  omega
theorem listed_great {r : List Iss} (h : listedB r = true) : greatB r = false := by
  have h1 := listed_60 h
  rw [greatB, Bool.or_eq_false_iff]
  refine ⟨decide_eq_false (by omega), ?_⟩
  rw [List.any_eq_false]
  intro x hx
  have h2 := listed_iss h hx
  have h3 := (iss_kind h2).2.2.1
  have h4 : x.dms.length ≤ 4 := by
    simp only [issB, headB, Bool.and_eq_true] at h2
    have := h2.1.1.2
    split at this
    · simp only [Bool.and_eq_true, decide_eq_true_eq] at this; omega
    · simp only [Bool.and_eq_true, decide_eq_true_eq] at this; omega
  simp only [Bool.or_eq_true, decide_eq_true_eq]
  omega
theorem mgE_ok {a b : List Iss} (ha : openV a = 0) (hb : openV b = 0) (h : (mgE a b).2 = 0) : clN a b a.length = [] ∧ openV (mgL a b) = 0 ∧ mgE a b = (mgL a b, 0) ∧ ∀ x, x ∈ mgL a b ↔ x ∈ a ∨ x ∈ b := by
  have la := open_listed ha
  have lb := open_listed hb
  unfold mgE at h ⊢
  rw [if_pos (mg_both ha hb)] at h ⊢
  by_cases c : clN a b a.length = []
  · rw [if_pos c] at h ⊢
    have hi := mg_inj la lb c
    by_cases o : openV (mgL a b) = 0
    · rw [if_pos o] at h ⊢
      exact ⟨c, o, rfl, fun x => mg_mem (ok2 la lb) hi⟩
    · rw [if_neg o] at h
      exact absurd h o
  · rw [if_neg c] at h
    cases h
theorem mgE_no {a b : List Iss} (ha : openV a = 0) (hb : openV b = 0) (h : (mgE a b).2 ≠ 0) : (mgE a b).1 = [] ∧ ((clN a b a.length ≠ [] ∧ (mgE a b).2 = 23) ∨ (clN a b a.length = [] ∧ ((mgE a b).2 = 20 ∨ (mgE a b).2 = 21))) := by
  unfold mgE at h ⊢
  rw [if_pos (mg_both ha hb)] at h ⊢
  by_cases c : clN a b a.length = []
  · rw [if_pos c] at h ⊢
    by_cases o : openV (mgL a b) = 0
    · rw [if_pos o] at h
      exact absurd rfl h
    · rw [if_neg o]
      exact ⟨rfl, .inr ⟨c, (open_or (mgL a b)).resolve_left o⟩⟩
  · rw [if_neg c]
    exact ⟨rfl, .inl ⟨c, rfl⟩⟩
theorem filt_at {α : Type} {l : List α} {p : α → Bool} {i : Nat} (hi : i < l.length) (hp : p l[i] = true) : (l.filter p)[((l.take i).filter p).length]? = some l[i] := by
  have hs : l = l.take i ++ l[i] :: l.drop (i + 1) := by
    have h2 := List.take_append_drop i l
    rw [List.drop_eq_getElem_cons hi] at h2
    exact h2.symm
  have e : l.filter p = (l.take i).filter p ++ l[i] :: (l.drop (i + 1)).filter p := by
    conv => lhs; rw [hs]
    rw [List.filter_append, List.filter_cons_of_pos hp]
  rw [e, List.getElem?_append_right (Nat.le_refl _), Nat.sub_self]
  rfl
theorem clN_at {a b : List Iss} {i : Nat} (hi : i < a.length) (h : clB b a[i] = true) : (clN a b a.length)[(clN a b i).length]? = some (a[i].d, a[i].l) := by
  have := filt_at hi h
  rw [clN, clN, List.take_length, List.length_map, List.getElem?_map, this]
  rfl
end Go.Proofs.YtdpmioiamcgfkaaDoor

/-! The abstract machine's code of functions of the program, as a program of ours printed it; that it is theirs is proved beside each. -/
namespace Go.Proofs.YtdpmioiamcgfkaaDoor
open Go.RowKit

def rc_law02_ready : RCode :=
  .seq (.reg 0 false [ { d := some 1, op := .box (.t 0) }, { d := some 2, op := .mov (.c (.bool false)) }])
 (.seq (.reg 1 false [ { d := some 3, op := .load true 1 (.t 1) }, { d := some 4, op := .call 18 [.t 3] }, { d := some 5, op := .un .not (.t 4) }, { d := some 6, op := .mov (.t 5) }, { d := some 7, op := .load true 1 (.t 1), guard := some (6, true) }, { d := some 8, op := .call 25 [.t 7], guard := some (6, true) }, { d := some 9, op := .bin .eql (.t 8) (.c (.int .i64 0)), guard := some (6, true) }, { d := some 10, op := .pick (.t 6) (.t 9) (.c (.bool false)) }, { d := some 2, op := .mov (.t 10) }]) (.ret))
def rr_law02_ready : List RRes := [.t 2]
theorem pc_law02_ready {G : Nat → Option (List AV)} {args : List AV} {v : AV} (hn : args.length ≤ Tryd.f52.ntmps) (h : ∀ R : Run, R.G = G → R.Top → AR Tryd.prog R rc_law02_ready (initSt args) (Fin rr_law02_ready v)) : PC Tryd.prog G 52 args v :=
  PC_of Tryd.func52 rfl (by kernel_rfl) (rc := rc_law02_ready) (by kernel_rfl) (rs := rr_law02_ready) (by kernel_rfl) hn (fun R _ hG hr => h R hG hr)

def rc_ref02_RefOf : RCode :=
  .seq (.reg 0 false [ { d := some 1, op := .box (.t 0) }, { d := some 2, op := .alloc [.int .i64 0, .int .i64 0] }])
 (.seq (.reg 1 false [ { d := some 3, op := .faddr 0 (.t 1) }, { d := some 4, op := .load false 1 (.t 3) }, { d := some 5, op := .faddr 1 (.t 1) }, { d := some 6, op := .load false 1 (.t 5) }, { d := some 7, op := .build [.int .i64 0, .int .i64 0] [(0, 1, .t 4), (1, 1, .t 6)] }, { d := none, op := .store 2 (.t 2) (.t 7) }]) (.ret))
def rr_ref02_RefOf : List RRes := [.c 2 true 2]
theorem pc_ref02_RefOf {G : Nat → Option (List AV)} {args : List AV} {v : AV} (hn : args.length ≤ Tryd.f61.ntmps) (h : ∀ R : Run, R.G = G → R.Top → AR Tryd.prog R rc_ref02_RefOf (initSt args) (Fin rr_ref02_RefOf v)) : PC Tryd.prog G 61 args v :=
  PC_of Tryd.func61 rfl (by kernel_rfl) (rc := rc_ref02_RefOf) (by kernel_rfl) (rs := rr_ref02_RefOf) (by kernel_rfl) hn (fun R _ hG hr => h R hG hr)

end Go.Proofs.YtdpmioiamcgfkaaDoor

/-! The chapter's register, and what is told of it. -/
namespace Go.Proofs.YtdpmioiamcgfkaaDoor
open Go.RowKit

def regL : List Iss := [⟨10, 1, 1, [(20, 2), (30, 1)], []⟩, ⟨10, 2, 1, [(20, 1), (30, 2), (40, 2)], []⟩, ⟨20, 1, 1, [(30, 3), (50, 1)], []⟩,
  ⟨30, 1, 2, [], [⟨150, 100, 200⟩]⟩, ⟨30, 2, 2, [], [⟨150, 120, 200⟩]⟩, ⟨40, 1, 2, [], []⟩, ⟨50, 1, 3, [], []⟩]

theorem reg_nums : nums regL = [10, 20, 30, 40, 50] := by decide
theorem reg_open : openV regL = 0 := by decide +kernel
theorem reg_expl : exV regL [1, 1, 1, 1, 1] 10 = ([(30, 7), (50, 2)], 0) := by decide +kernel
theorem reg_uses : useE regL 30 = ([(10, 1), (10, 2), (20, 1)], 0) := by decide +kernel
theorem reg_above : abE regL [2, 1, 1, 1, 1] 40 = ([10], 0) := by decide +kernel
theorem reg_differ : difE regL 10 1 2 = ([⟨20, 2, 1⟩, ⟨30, 1, 2⟩, ⟨40, 0, 2⟩], [], 0) := by decide +kernel
theorem reg_last : cntV regL 30 = 2 := by decide +kernel
theorem reg_depth : dpG (dRun regL (nums regL).length).1 10 = 3 := by decide +kernel
theorem reg_wf : Wf regL := by
  refine ⟨⟨by unfold Sml; decide, ?_⟩, by decide⟩
  unfold Sml; decide
theorem reg_tree : trE regL [1, 1, 2, 1, 1] 10 = ([⟨0, 10, 1, 1⟩, ⟨1, 20, 1, 2⟩, ⟨2, 30, 2, 3⟩, ⟨2, 50, 1, 1⟩, ⟨1, 30, 2, 1⟩], 0) := by decide +kernel
def regD : List Iss := [⟨10, 1, 1, [(20, 2), (30, 1)], []⟩, ⟨10, 1, 1, [(20, 2), (30, 1)], []⟩, ⟨10, 2, 1, [(20, 1), (30, 2), (40, 2)], []⟩, ⟨10, 2, 1, [(20, 1), (30, 2), (40, 2)], []⟩, ⟨20, 1, 1, [(30, 3), (50, 1)], []⟩, ⟨20, 1, 1, [(30, 3), (50, 1)], []⟩,
  ⟨30, 1, 2, [], [⟨150, 100, 200⟩]⟩, ⟨30, 1, 2, [], [⟨150, 100, 200⟩]⟩, ⟨30, 2, 2, [], [⟨150, 120, 200⟩]⟩, ⟨30, 2, 2, [], [⟨150, 120, 200⟩]⟩, ⟨40, 1, 2, [], []⟩, ⟨40, 1, 2, [], []⟩, ⟨50, 1, 3, [], []⟩, ⟨50, 1, 3, [], []⟩]
theorem reg_clash : clN regL regL regL.length = [] := by decide +kernel
theorem reg_sort : sortN (regL ++ regL) = regD := by
  have hL := open_listed reg_open
  refine sortN_eq (mg_inj hL hL reg_clash) (by decide +kernel) ?_
  unfold SrtN
  decide +kernel
theorem reg_merge : mgE regL regL = (regL, 0) := by
  have e : mgL regL regL = regL := by
    rw [mgL, reg_sort]
    decide +kernel
  simp [mgE, bothE, reg_open, reg_clash, e]
theorem reg_at : findN 30 2 regL = some ⟨30, 2, 2, [], [⟨150, 120, 200⟩]⟩ := by decide +kernel

section
variable {G : Nat → Option (List AV)}

theorem itemL_pc (d c : Int) : PC Tryd.prog G 58 [.int .i64 d, .int .i64 c] (.agg [.int .i64 d, .int .i64 c]) := by
  (refine pc_law02_item (Nat.le_of_ble_eq_true rfl) fun R hG hrd => GO_AR mixed 1000 ?_; subst hG)
  simp -implicitDefEqProofs [rc_law02_item, rr_law02_item]
theorem assembly_pc (d l : Int) (its : List (Int × Int)) : PC Tryd.prog G 99 [.int .i64 d, .int .i64 l, .vsl (its.map ita)] (.agg (isa ⟨d, l, 1, its, []⟩)) := by
  refine PC.nzR (v := .agg [.int .i64 d, .int .i64 l, .int .u8 1, .vsl (its.map ita), .nils]) ?_ (by simp [nz, isa])
  (refine pc_law02_assembly (Nat.le_of_ble_eq_true rfl) fun R hG hrd => GO_AR mixed 1000 ?_; subst hG)
  simp -implicitDefEqProofs [rc_law02_assembly, rr_law02_assembly]
theorem part_pc (d l k : Int) (dms : List Dm) : PC Tryd.prog G 100 [.int .i64 d, .int .i64 l, .int .u8 k, .vsl (dms.map dma)] (.agg (isa ⟨d, l, k, [], dms⟩)) := by
  refine PC.nzR (v := .agg [.int .i64 d, .int .i64 l, .int .u8 k, .nils, .vsl (dms.map dma)]) ?_ (by simp [nz, isa])
  (refine pc_law02_part (Nat.le_of_ble_eq_true rfl) fun R hG hrd => GO_AR mixed 1000 ?_; subst hG)
  simp -implicitDefEqProofs [rc_law02_part, rr_law02_part]
theorem part0_pc (d l k : Int) : PC Tryd.prog G 100 [.int .i64 d, .int .i64 l, .int .u8 k, .nils] (.agg (isa ⟨d, l, k, [], []⟩)) := by
  refine PC.nzR (v := .agg [.int .i64 d, .int .i64 l, .int .u8 k, .nils, .nils]) ?_ (by simp [nz, isa])
  (refine pc_law02_part (Nat.le_of_ble_eq_true rfl) fun R hG hrd => GO_AR mixed 1000 ?_; subst hG)
  simp -implicitDefEqProofs [rc_law02_part, rr_law02_part]
theorem first_pc : PC Tryd.prog G 65 [] (.vsl (([1, 1, 1, 1, 1] : List Int).map ia)) := by
  (refine pc_law02_first (Nat.le_of_ble_eq_true rfl) fun R hG hrd => GO_AR mixed 1000 ?_; subst hG)
  simp -implicitDefEqProofs [rc_law02_first, rr_law02_first, ia]
  rfl
theorem second_pc : PC Tryd.prog G 64 [] (.vsl (([2, 1, 1, 1, 1] : List Int).map ia)) := by
  (refine pc_law02_second (Nat.le_of_ble_eq_true rfl) fun R hG hrd => GO_AR mixed 1000 ?_; subst hG)
  simp -implicitDefEqProofs [rc_law02_second, rr_law02_second, ia]
  rfl
theorem register_pc : PC Tryd.prog G 63 [] (rega regL) := by
  (refine pc_law02_register (Nat.le_of_ble_eq_true rfl) fun R hG hrd => GO_AR mixed 1000 ?_; subst hG)
  simp -implicitDefEqProofs [rc_law02_register, rr_law02_register]
  (first | refine CallK.of (itemL_pc 20 2) (by simp) ?_ | refine CallD.of (itemL_pc 20 2) (by simp) ?_)
  simp -implicitDefEqProofs []
  (first | refine CallK.of (itemL_pc 30 1) (by simp) ?_ | refine CallD.of (itemL_pc 30 1) (by simp) ?_)
  simp -implicitDefEqProofs []
  (first | refine CallK.of (assembly_pc 10 1 [(20, 2), (30, 1)]) (by simp) ?_ | refine CallD.of (assembly_pc 10 1 [(20, 2), (30, 1)]) (by simp) ?_)
  simp -implicitDefEqProofs [isa]
  (first | refine CallK.of (itemL_pc 20 1) (by simp) ?_ | refine CallD.of (itemL_pc 20 1) (by simp) ?_)
  simp -implicitDefEqProofs []
  (first | refine CallK.of (itemL_pc 30 2) (by simp) ?_ | refine CallD.of (itemL_pc 30 2) (by simp) ?_)
  simp -implicitDefEqProofs []
  (first | refine CallK.of (itemL_pc 40 2) (by simp) ?_ | refine CallD.of (itemL_pc 40 2) (by simp) ?_)
  simp -implicitDefEqProofs []
  (first | refine CallK.of (assembly_pc 10 2 [(20, 1), (30, 2), (40, 2)]) (by simp) ?_ | refine CallD.of (assembly_pc 10 2 [(20, 1), (30, 2), (40, 2)]) (by simp) ?_)
  simp -implicitDefEqProofs [isa]
  (first | refine CallK.of (itemL_pc 30 3) (by simp) ?_ | refine CallD.of (itemL_pc 30 3) (by simp) ?_)
  simp -implicitDefEqProofs []
  (first | refine CallK.of (itemL_pc 50 1) (by simp) ?_ | refine CallD.of (itemL_pc 50 1) (by simp) ?_)
  simp -implicitDefEqProofs []
  (first | refine CallK.of (assembly_pc 20 1 [(30, 3), (50, 1)]) (by simp) ?_ | refine CallD.of (assembly_pc 20 1 [(30, 3), (50, 1)]) (by simp) ?_)
  simp -implicitDefEqProofs [isa]
  (first | refine CallK.of (part_pc 30 1 2 [⟨150, 100, 200⟩]) (by simp) ?_ | refine CallD.of (part_pc 30 1 2 [⟨150, 100, 200⟩]) (by simp) ?_)
  simp -implicitDefEqProofs [isa]
  (first | refine CallK.of (part_pc 30 2 2 [⟨150, 120, 200⟩]) (by simp) ?_ | refine CallD.of (part_pc 30 2 2 [⟨150, 120, 200⟩]) (by simp) ?_)
  simp -implicitDefEqProofs [isa]
  (first | refine CallK.of (part0_pc 40 1 2) (by simp) ?_ | refine CallD.of (part0_pc 40 1 2) (by simp) ?_)
  simp -implicitDefEqProofs [isa]
  (first | refine CallK.of (part0_pc 50 1 3) (by simp) ?_ | refine CallD.of (part0_pc 50 1 3) (by simp) ?_)
  simp -implicitDefEqProofs [isa, rega, regL, ita, dma]
  rfl
end
end Go.Proofs.YtdpmioiamcgfkaaDoor

/-! At as a tree; the chapter's examples. -/
namespace Go.Proofs.YtdpmioiamcgfkaaDoor
open Go.RowKit
section
variable {G : Nat → Option (List AV)}

theorem at_pc (hG : GC G) (r : List Iss) (d l : Int) (h : Wf r) : PC Tryd.prog G 27 [rega r, .agg [.int .i64 d, .int .i64 l]] (.tup [.agg (isa (atP r d l).1), .int .i64 (atP r d l).2]) := by
  by_cases e : openV r = 0
  case neg =>
    refine PC.nzR (v := .tup [.agg [.int .i64 0, .int .i64 0, .int .u8 0, .nils, .nils], .int .i64 (openV r)]) ?_ (by simp [nz, atP, e, zI, isa])
    (refine pc_sheet_At (Nat.le_of_ble_eq_true rfl) fun R hG hrd => GO_AR mixed 1000 ?_; subst hG)
    simp -implicitDefEqProofs [rc_sheet_At, rr_sheet_At, rega]
    (first | refine CallK.of (open_pc hG r h) (by simp) ?_ | refine CallD.of (open_pc hG r h) (by simp) ?_)
    simp -implicitDefEqProofs [openA, e]
  have hL := open_listed e
  have hO := ord_of hL
  cases hf : findN d l r with
  | none =>
    refine PC.nzR (v := .tup [.agg [.int .i64 0, .int .i64 0, .int .u8 0, .nils, .nils], .int .i64 6]) ?_ (by simp [nz, atP, e, hf, zI, isa])
    (refine pc_sheet_At (Nat.le_of_ble_eq_true rfl) fun R hG hrd => GO_AR mixed 1000 ?_; subst hG)
    simp -implicitDefEqProofs [rc_sheet_At, rr_sheet_At, rega]
    (first | refine CallK.of (open_pc hG r h) (by simp) ?_ | refine CallD.of (open_pc hG r h) (by simp) ?_)
    simp -implicitDefEqProofs [openA, e]
    (first | refine CallK.of (find_pcS r (nums r) d l (ord_map hO) h.1.1 (find_own hL)) (by simp) ?_ | refine CallD.of (find_pcS r (nums r) d l (ord_map hO) h.1.1 (find_own hL)) (by simp) ?_)
    simp -implicitDefEqProofs [hf, fndA, noIs]
  | some x =>
    have ev : atP r d l = (x, 0) := by simp [atP, e, hf]
    have hx := h.1.2 x (findN_mem hf).1
    have ex : isa x = [.int .i64 x.d, .int .i64 x.l, .int .u8 x.k, .vsl (x.its.map ita), .vsl (x.dms.map dma)] := rfl
    have cp := copied_pc (G := G) x hx.1 hx.2
    rw [ev]
    rw [ex] at cp
    (refine pc_sheet_At (Nat.le_of_ble_eq_true rfl) fun R hG hrd => GO_AR mixed 1000 ?_; subst hG)
    simp -implicitDefEqProofs [rc_sheet_At, rr_sheet_At, rega]
    (first | refine CallK.of (open_pc hG r h) (by simp) ?_ | refine CallD.of (open_pc hG r h) (by simp) ?_)
    simp -implicitDefEqProofs [openA, e]
    (first | refine CallK.of (find_pcS r (nums r) d l (ord_map hO) h.1.1 (find_own hL)) (by simp) ?_ | refine CallD.of (find_pcS r (nums r) d l (ord_map hO) h.1.1 (find_own hL)) (by simp) ?_)
    simp -implicitDefEqProofs [hf, fndA, ex]
    (first | refine CallK.of (cp) (by simp) ?_ | refine CallD.of (cp) (by simp) ?_)
    simp -implicitDefEqProofs [ex]

attribute [local simp] rega_pure
set_option maxRecDepth 100000 in
set_option maxHeartbeats 4000000 in
theorem alive_pc (hG : GC G) : PC Tryd.prog G 51 [] (.bool true) := by
  have hM := merge_few_pc hG regL regL reg_wf reg_wf (fun _ => by decide)
  rw [reg_merge] at hM
  have hA := at_pc hG regL 30 2 reg_wf
  have eA : atP regL 30 2 = (⟨30, 2, 2, [], [⟨150, 120, 200⟩]⟩, 0) := by simp [atP, reg_open, reg_at]
  rw [eA] at hA
  have k10 : knV regL 10 = 0 := by decide +kernel
  have k30 : knV regL 30 = 0 := by decide +kernel
  have hD := drawP_pc hG regL reg_wf
  rw [reg_open, if_pos rfl, reg_nums] at hD
  have hE := explP_pc hG regL [1, 1, 1, 1, 1] 10 reg_wf
  rw [reg_expl] at hE
  have hT := treeP_pc hG regL [1, 1, 2, 1, 1] 10 reg_wf
  rw [reg_tree] at hT
  have hU := usesP_pc hG regL 30 reg_wf
  rw [reg_uses] at hU
  have hB := aboveP_pc hG regL [2, 1, 1, 1, 1] 40 reg_wf
  rw [reg_above] at hB
  have hF := differP_pc hG regL 10 1 2 reg_wf
  rw [reg_differ] at hF
  have hP := depthP_pc hG regL 10 reg_wf
  rw [k10, if_pos rfl, reg_depth] at hP
  have hL := lastP_pc hG regL 30 reg_wf
  rw [k30, if_pos rfl, reg_last] at hL
  have r5 : List.range 5 = [0, 1, 2, 3, 4] := rfl
  have hR := register_pc (G := G)
  have hR1 := first_pc (G := G)
  have hR2 := second_pc (G := G)
  simp only [List.map_cons, List.map_nil, ia, ita, bra, dma] at hD hE hT hU hB hF hR1 hR2
  (refine pc_law02_alive (Nat.le_of_ble_eq_true rfl) fun R hG hrd => GO_AR mixed 1000 ?_; subst hG)
  simp -implicitDefEqProofs [rc_law02_alive, rr_law02_alive]
  (first | refine CallK.of (hR) (by simp) ?_ | refine CallD.of (hR) (by simp) ?_)
  simp -implicitDefEqProofs []
  (first | refine CallK.of (hD) (by simp) ?_ | refine CallD.of (hD) (by simp) ?_)
  simp -implicitDefEqProofs []
  (first | refine CallK.of (hR) (by simp) ?_ | refine CallD.of (hR) (by simp) ?_)
  simp -implicitDefEqProofs []
  (first | refine CallK.of (hR1) (by simp) ?_ | refine CallD.of (hR1) (by simp) ?_)
  simp -implicitDefEqProofs []
  (first | refine CallK.of (hE) (by simp) ?_ | refine CallD.of (hE) (by simp) ?_)
  simp -implicitDefEqProofs []
  (first | refine CallK.of (hR) (by simp) ?_ | refine CallD.of (hR) (by simp) ?_)
  simp -implicitDefEqProofs [r5]
  (first | refine CallK.of (hT) (by simp) ?_ | refine CallD.of (hT) (by simp) ?_)
  simp -implicitDefEqProofs []
  (first | refine CallK.of (hR) (by simp) ?_ | refine CallD.of (hR) (by simp) ?_)
  simp -implicitDefEqProofs []
  (first | refine CallK.of (hU) (by simp) ?_ | refine CallD.of (hU) (by simp) ?_)
  simp -implicitDefEqProofs []
  (first | refine CallK.of (hR) (by simp) ?_ | refine CallD.of (hR) (by simp) ?_)
  simp -implicitDefEqProofs []
  (first | refine CallK.of (hR2) (by simp) ?_ | refine CallD.of (hR2) (by simp) ?_)
  simp -implicitDefEqProofs []
  (first | refine CallK.of (hB) (by simp) ?_ | refine CallD.of (hB) (by simp) ?_)
  simp -implicitDefEqProofs []
  (first | refine CallK.of (hR) (by simp) ?_ | refine CallD.of (hR) (by simp) ?_)
  simp -implicitDefEqProofs []
  (first | refine CallK.of (hF) (by simp) ?_ | refine CallD.of (hF) (by simp) ?_)
  simp -implicitDefEqProofs []
  (first | refine CallK.of (hR) (by simp) ?_ | refine CallD.of (hR) (by simp) ?_)
  simp -implicitDefEqProofs []
  (first | refine CallK.of (hP) (by simp) ?_ | refine CallD.of (hP) (by simp) ?_)
  simp -implicitDefEqProofs []
  (first | refine CallK.of (hR) (by simp) ?_ | refine CallD.of (hR) (by simp) ?_)
  simp -implicitDefEqProofs []
  (first | refine CallK.of (hL) (by simp) ?_ | refine CallD.of (hL) (by simp) ?_)
  simp -implicitDefEqProofs []
  (first | refine CallK.of (hR) (by simp) ?_ | refine CallD.of (hR) (by simp) ?_)
  simp -implicitDefEqProofs []
  (first | refine CallK.of (hA) (by simp) ?_ | refine CallD.of (hA) (by simp) ?_)
  simp -implicitDefEqProofs [isa, dma]
  (first | refine CallK.of (hR) (by simp) ?_ | refine CallD.of (hR) (by simp) ?_)
  simp -implicitDefEqProofs []
  (first | refine CallK.of (hR) (by simp) ?_ | refine CallD.of (hR) (by simp) ?_)
  simp -implicitDefEqProofs []
  simp only [rega] at hM
  (first | refine CallK.of (hM) (by simp) ?_ | refine CallD.of (hM) (by simp) ?_)
  have hI := sameInts_pc (G := R.G) [10, 20, 30, 40, 50] [10, 20, 30, 40, 50] (by unfold Sml; decide)
  have hI1 := sameInts_pc (G := R.G) [10] [10] (by unfold Sml; decide)
  have hIt := sameItems_pc (G := R.G) [(30, 7), (50, 2)] [(30, 7), (50, 2)] (by unfold Sml; decide)
  have hBr := sameBr_pc (G := R.G) [⟨0, 10, 1, 1⟩, ⟨1, 20, 1, 2⟩, ⟨2, 30, 2, 3⟩, ⟨2, 50, 1, 1⟩, ⟨1, 30, 2, 1⟩] [⟨0, 10, 1, 1⟩, ⟨1, 20, 1, 2⟩, ⟨2, 30, 2, 3⟩, ⟨2, 50, 1, 1⟩, ⟨1, 30, 2, 1⟩] (by unfold Sml; decide)
  have hRf := sameRefs_pc (G := R.G) [(10, 1), (10, 2), (20, 1)] [(10, 1), (10, 2), (20, 1)] (by unfold Sml; decide)
  have hCh := sameChg_pc (G := R.G) [⟨20, 2, 1⟩, ⟨30, 1, 2⟩, ⟨40, 0, 2⟩] [⟨20, 2, 1⟩, ⟨30, 1, 2⟩, ⟨40, 0, 2⟩] (by unfold Sml; decide)
  have hSi := sameIssue_pc (G := R.G) ⟨30, 2, 2, [], [⟨150, 120, 200⟩]⟩ ⟨30, 2, 2, [], [⟨150, 120, 200⟩]⟩ (by unfold Sml; decide) (by unfold Sml; decide)
  have hSm := same_pc (G := R.G) regL regL reg_wf.1
  rw [decide_eq_true rfl] at hI hI1 hIt hBr hRf hCh hSi hSm
  simp only [List.map_cons, List.map_nil, ia, ita, bra, dma, isa] at hI hI1 hIt hBr hRf hCh hSi
  simp -implicitDefEqProofs [r5]
  (first | refine CallK.of (hI) (by simp) ?_ | refine CallD.of (hI) (by simp) ?_)
  simp -implicitDefEqProofs []
  (first | refine CallK.of (itemL_pc 30 7) (by simp) ?_ | refine CallD.of (itemL_pc 30 7) (by simp) ?_)
  simp -implicitDefEqProofs []
  (first | refine CallK.of (itemL_pc 50 2) (by simp) ?_ | refine CallD.of (itemL_pc 50 2) (by simp) ?_)
  simp -implicitDefEqProofs []
  (first | refine CallK.of (hIt) (by simp) ?_ | refine CallD.of (hIt) (by simp) ?_)
  simp -implicitDefEqProofs []
  (first | refine CallK.of (hBr) (by simp) ?_ | refine CallD.of (hBr) (by simp) ?_)
  simp -implicitDefEqProofs []
  (first | refine CallK.of (hRf) (by simp) ?_ | refine CallD.of (hRf) (by simp) ?_)
  simp -implicitDefEqProofs []
  (first | refine CallK.of (hI1) (by simp) ?_ | refine CallD.of (hI1) (by simp) ?_)
  simp -implicitDefEqProofs []
  (first | refine CallK.of (hCh) (by simp) ?_ | refine CallD.of (hCh) (by simp) ?_)
  simp -implicitDefEqProofs []
  (first | refine CallK.of (hR) (by simp) ?_ | refine CallD.of (hR) (by simp) ?_)
  have e0 : rega regL = .agg [.vsl (regL.map isa)] := rfl
  have gl : regL.length = 7 := rfl
  have g4 : regL[4]? = some ⟨30, 2, 2, [], [⟨150, 120, 200⟩]⟩ := rfl
  have g4' : ∀ h : 4 < regL.length, regL[4]'h = ⟨30, 2, 2, [], [⟨150, 120, 200⟩]⟩ := fun _ => rfl
  simp -implicitDefEqProofs [e0, gl, g4, g4', isa, dma]
  (first | refine CallK.of (hSi) (by simp) ?_ | refine CallD.of (hSi) (by simp) ?_)
  simp -implicitDefEqProofs []
  (first | refine CallK.of (hR) (by simp) ?_ | refine CallD.of (hR) (by simp) ?_)
  rw [e0] at hSm ⊢
  simp -implicitDefEqProofs []
  refine CallD.of hSm (by simp [AV.pure, isa]) ?_
  simp -implicitDefEqProofs []
  exact rfl
end
end Go.Proofs.YtdpmioiamcgfkaaDoor

/-! Lists of numbers that came in. -/
namespace Go.Proofs.YtdpmioiamcgfkaaDoor
open Go.RowKit

end Go.Proofs.YtdpmioiamcgfkaaDoor

/-! What the outright laws choose: letters, drawings. -/
namespace Go.Proofs.YtdpmioiamcgfkaaDoor
open Go.RowKit

def readyB (r : List Iss) : Bool := !greatB r && decide (chkV r = 0)
theorem ready_ok {r : List Iss} (h : readyB r = true) (hk : ∀ x ∈ r, KOk x) : Wf r ∧ openV r = 0 := by
  simp only [readyB, Bool.and_eq_true, Bool.not_eq_true', decide_eq_true_eq] at h
  exact ⟨great_wf h.1 hk, by rw [open_chk]; exact h.2⟩
section
variable {G : Nat → Option (List AV)}

theorem ready_pc (r : List Iss) (hk : ∀ x ∈ r, KOk x) : PC Tryd.prog G 52 [rega r] (.bool (readyB r)) := by
  have hg := greatA_pc (G := G) r
  have hc := fun h => checkR_pc (G := G) r (great_wf h hk)
  rw [rega] at hg hc
  (refine pc_law02_ready (Nat.le_of_ble_eq_true rfl) fun R hG hrd => GO_AR mixed 1000 ?_; subst hG)
  simp -implicitDefEqProofs [rc_law02_ready, rr_law02_ready, rega]
  (first | refine CallK.of (hg) (by simp) ?_ | refine CallD.of (hg) (by simp) ?_)
  cases g : greatB r
  · simp -implicitDefEqProofs []
    (first | refine CallK.of (hc g) (by simp) ?_ | refine CallD.of (hc g) (by simp) ?_)
    simp -implicitDefEqProofs [readyB, g]
  · simp -implicitDefEqProofs [readyB, g]

end
end Go.Proofs.YtdpmioiamcgfkaaDoor

/-! Another letter of a drawing: plain. -/
namespace Go.Proofs.YtdpmioiamcgfkaaDoor
open Go.RowKit

end Go.Proofs.YtdpmioiamcgfkaaDoor

/-! The law SheetLetter, by the abstract machine. -/
namespace Go.Proofs.YtdpmioiamcgfkaaDoor
open Go.RowKit
section
variable {G : Nat → Option (List AV)}

end
end Go.Proofs.YtdpmioiamcgfkaaDoor

/-! What is above a drawing, and what is in trees: plain. -/
namespace Go.Proofs.YtdpmioiamcgfkaaDoor
open Go.RowKit

end Go.Proofs.YtdpmioiamcgfkaaDoor

/-! The law SheetAbove, by the abstract machine. -/
namespace Go.Proofs.YtdpmioiamcgfkaaDoor
open Go.RowKit

section
variable {G : Nat → Option (List AV)}

theorem refOf_pc (x : Iss) : PC Tryd.prog G 61 [.agg (isa x)] (.agg [.int .i64 x.d, .int .i64 x.l]) := by
  (refine pc_ref02_RefOf (Nat.le_of_ble_eq_true rfl) fun R hG hrd => GO_AR mixed 1000 ?_; subst hG)
  simp -implicitDefEqProofs [rc_ref02_RefOf, rr_ref02_RefOf, isa]

end
end Go.Proofs.YtdpmioiamcgfkaaDoor

/-! The laws SheetSides and SheetOnce, by the abstract machine. -/
namespace Go.Proofs.YtdpmioiamcgfkaaDoor
open Go.RowKit

section
variable {G : Nat → Option (List AV)}

theorem clashP_pc (hG : GC G) (a b : List Iss) (ha : Wf a) (hb : Wf b) : PC Tryd.prog G 47 [rega a, rega b] (.tup [.vsl ((clE a b).map ita), .int .i64 (bothE a b)]) := by
  obtain ⟨bk, hcl⟩ := clash_pc hG a b ha hb
  rw [rega, rega] at hcl
  (refine pc_sheet_Clash (Nat.le_of_ble_eq_true rfl) fun R hG hrd => GO_AR mixed 1000 ?_; subst hG)
  simp -implicitDefEqProofs [rc_sheet_Clash, rr_sheet_Clash, rega]
  (first | refine CallK.of (hcl) (by simp) ?_ | refine CallD.of (hcl) (by simp) ?_)
  simp -implicitDefEqProofs []

end
end Go.Proofs.YtdpmioiamcgfkaaDoor

/-! The law SheetOnce, by the abstract machine. -/
namespace Go.Proofs.YtdpmioiamcgfkaaDoor
open Go.RowKit

def onC (a b X : List Iss) (cl : List (Int × Int)) (g : Int) : List (Nat × AV) := [(2, .ptr 2 0), (3, .ptr 3 0), (5, .bool true), (6, .vsl (cl.map ita)), (8, .ptr 8 0), (9, .int .i64 g)]
def onB (a b X : List Iss) : List (Nat × AObj) := [(2, .box [.vsl (a.map isa)]), (3, .box [.vsl (b.map isa)]), (8, .box [.vsl (X.map isa)])]
def onA (a b X : List Iss) (cl : List (Int × Int)) (g : Int) (i : Nat) : St := ⟨(61, .int .i64 i) :: (60, .int .i64 a.length) :: (59, .vsl (a.map isa)) :: (10, .int .i64 (cmN a b i : Nat)) :: (11, .int .i64 ((clN a b i).length : Nat)) :: onC a b X cl g, onB a b X⟩
def onT (a b X : List Iss) (T : List (List AV)) (k : Nat) : St := ⟨[(141, .int .i64 k), (140, .int .i64 2), (139, .vsl T), (8, .ptr 8 0), (5, .bool true)], [(8, .box [.vsl (X.map isa)])]⟩
def onR (X : List Iss) (T : List (List AV)) (k : Nat) (rr : List Iss) (j : Nat) : St := ⟨[(148, .int .i64 j), (147, .int .i64 rr.length), (146, .vsl (rr.map isa)), (141, .int .i64 k), (140, .int .i64 2), (139, .vsl T), (8, .ptr 8 0), (5, .bool true)], [(8, .box [.vsl (X.map isa)])]⟩
section
variable {G : Nat → Option (List AV)}

theorem ready_X {r : List Iss} (h : openV r = 0) : readyB r = true := by
  rw [readyB, listed_great (open_listed h), ← open_chk, h]; rfl

set_option maxHeartbeats 4000000 in
set_option maxRecDepth 100000 in
theorem once_pc (hG : GC G) (a b : List Iss) (ka : ∀ x ∈ a, KOk x) (kb : ∀ x ∈ b, KOk x) : PC Tryd.prog G 16 [rega a, rega b] (.bool true) := by
  have hA := alive_pc hG
  have hra := ready_pc (G := G) a ka
  have hrb := ready_pc (G := G) b kb
  cases ra : readyB a
  · rw [ra, rega] at hra
    (refine pc_law02_SheetOnce (Nat.le_of_ble_eq_true rfl) fun R hG hrd => GO_AR mixed 1000 ?_; subst hG)
    simp -implicitDefEqProofs [rc_law02_SheetOnce, rr_law02_SheetOnce, rega]
    (first | refine CallK.of (hA) (by simp) ?_ | refine CallD.of (hA) (by simp) ?_)
    simp -implicitDefEqProofs []
    (first | refine CallK.of (hra) (by simp) ?_ | refine CallD.of (hra) (by simp) ?_)
    simp -implicitDefEqProofs []
  cases rb : readyB b
  · rw [ra, rega] at hra
    rw [rb, rega] at hrb
    (refine pc_law02_SheetOnce (Nat.le_of_ble_eq_true rfl) fun R hG hrd => GO_AR mixed 1000 ?_; subst hG)
    simp -implicitDefEqProofs [rc_law02_SheetOnce, rr_law02_SheetOnce, rega]
    (first | refine CallK.of (hA) (by simp) ?_ | refine CallD.of (hA) (by simp) ?_)
    simp -implicitDefEqProofs []
    (first | refine CallK.of (hra) (by simp) ?_ | refine CallD.of (hra) (by simp) ?_)
    simp -implicitDefEqProofs []
    (first | refine CallK.of (hrb) (by simp) ?_ | refine CallD.of (hrb) (by simp) ?_)
    simp -implicitDefEqProofs []
  obtain ⟨wa, oa⟩ := ready_ok ra ka
  obtain ⟨wb, ob⟩ := ready_ok rb kb
  have la := open_listed oa
  have lb := open_listed ob
  have h60a := listed_60 la
  have h60b := listed_60 lb
  have hc1 := clashP_pc hG a b wa wb
  have e1 : clE a b = clN a b a.length := by rw [clE, if_pos (mg_both oa ob)]
  rw [e1, mg_both oa ob] at hc1
  have hm1 := merge_pc hG a b wa wb
  have wm := mgL_wf wa wb (by omega) (by omega)
  rw [ra] at hra
  rw [rb] at hrb
  have hclen := clN_len a b a.length
  have hcat := fun i hi => clN_at (a := a) (b := b) (i := i) hi
  have hclt : ∀ i (hi : i < a.length), clB b a[i] = true → (clN a b i).length < (clN a b a.length).length := fun i hi hc => (List.getElem?_eq_some_iff.1 (hcat i hi hc)).1
  have hat := fun d l => at_pc hG b d l wb
  simp only [rega] at hat
  -- the two cases of the merge
  obtain ⟨X, g, hX⟩ : ∃ X g, mgE a b = (X, g) := ⟨_, _, rfl⟩
  have hcase : (g = 0 ∧ clN a b a.length = [] ∧ openV X = 0 ∧ Wf X ∧ (∀ x, x ∈ X ↔ x ∈ a ∨ x ∈ b) ∧ X.length + cmN a b a.length = a.length + b.length) ∨ (clN a b a.length ≠ [] ∧ g = 23) ∨ (clN a b a.length = [] ∧ (g = 20 ∨ g = 21)) := by
    by_cases g0 : (mgE a b).2 = 0
    · obtain ⟨cn, ox, ex, hmem⟩ := mgE_ok oa ob g0
      rw [ex] at hX
      obtain ⟨rfl, rfl⟩ := Prod.mk.inj hX
      exact .inl ⟨rfl, cn, ox, wm, hmem, mg_count la lb (mg_inj la lb cn)⟩
    · obtain ⟨-, h⟩ := mgE_no oa ob g0
      rw [hX] at h
      exact .inr h
  rw [hX] at hm1
  simp only [rega] at hm1 hra hrb hc1
  have hdf : (decide (g = 23) == decide (0 < (clN a b a.length).length)) = true := by
    rcases hcase with ⟨h1, h2, -⟩ | ⟨h1, h2⟩ | ⟨h1, h2⟩
    · rw [h1, h2]; rfl
    · rw [h2, decide_eq_true (List.length_pos_iff.2 h1)]; rfl
    · rw [h1]; rcases h2 with h2 | h2 <;> rw [h2] <;> rfl
  have hdf2 : (g = 23) ↔ 0 < (clN a b a.length).length := by simpa using hdf
  (refine pc_law02_SheetOnce (Nat.le_of_ble_eq_true rfl) fun R hG hrd => GO_AR mixed 1000 ?_; subst hG)
  simp -implicitDefEqProofs [rc_law02_SheetOnce, rr_law02_SheetOnce, rega]
  (first | refine CallK.of (hA) (by simp) ?_ | refine CallD.of (hA) (by simp) ?_)
  simp -implicitDefEqProofs []
  (first | refine CallK.of (hra) (by simp) ?_ | refine CallD.of (hra) (by simp) ?_)
  simp -implicitDefEqProofs []
  (first | refine CallK.of (hrb) (by simp) ?_ | refine CallD.of (hrb) (by simp) ?_)
  simp -implicitDefEqProofs []
  (first | refine CallK.of (hc1) (by simp) ?_ | refine CallD.of (hc1) (by simp) ?_)
  simp -implicitDefEqProofs []
  (first | refine CallK.of (hm1) (by simp) ?_ | refine CallD.of (hm1) (by simp) ?_)
  simp -implicitDefEqProofs [hdf2]
  refine AR_for (onA a b X (clN a b a.length) g) (fun _ => True) a.length ?_ trivial ?_ ?_
  · ((try simp only [onA, onC, onB, cmN, clN, List.take_zero, List.filter_nil, List.map_nil, List.length_nil]); refine Weak.sub (by simp [lk, keptA, AV.keys, onA, onC, onB, cmN, clN, List.take_zero, List.filter_nil, List.map_nil, List.length_nil]) ?_; simp only [onA, onC, onB, cmN, clN, List.take_zero, List.filter_nil, List.map_nil, List.length_nil, List.cons_append, List.nil_append, List.mem_cons, List.not_mem_nil, or_false, forall_eq_or_imp, forall_eq, and_true, and_true]; (try simp [lk, keptO, keptA, AV.keys, onA, onC, onB, cmN, clN, List.take_zero, List.filter_nil, List.map_nil, List.length_nil]))
  · intro i hi _
    refine GO_AR mixed 1000 ?_
    have wi : IntKind.i64.wrap ((i : Int) + 1) = (i : Int) + 1 := wrapI (by omega) (by omega)
    have ex : isa a[i] = [.int .i64 a[i].d, .int .i64 a[i].l, .int .u8 a[i].k, .vsl (a[i].its.map ita), .vsl (a[i].dms.map dma)] := rfl
    have hro := refOf_pc (G := R.G) a[i]
    have hai := hat a[i].d a[i].l
    have sc := clN_succ (b := b) hi
    have cc := cmN_succ (b := b) hi
    have cle := cmN_le a b i
    have clb := clN_len a b i
    have wsm := wa.1.2 _ (List.getElem_mem hi)
    have hlt1 := hclt i hi
    have hat1 := hcat i hi
    have wc : IntKind.i64.wrap ((cmN a b i : Int) + 1) = (cmN a b i : Int) + 1 := wrapI (by omega) (by omega)
    have wd : IntKind.i64.wrap (((clN a b i).length : Int) + 1) = ((clN a b i).length : Int) + 1 := wrapI (by omega) (by omega)
    rw [ex] at hro
    generalize hx : a[i] = x at *
    cases hf : findN x.d x.l b with
    | none =>
      have ev : atP b x.d x.l = (zI, 6) := by simp [atP, ob, hf]
      have eb : clB b x = false := by simp [clB, hf]
      rw [ev] at hai
      rw [eb] at sc
      rw [hf] at cc
      simp only [Bool.false_eq_true, if_false, Option.isSome_none] at sc cc
      simp -implicitDefEqProofs [onA, onC, onB, hi, hx, ex]
      (first | refine CallK.of (hro) (by simp) ?_ | refine CallD.of (hro) (by simp) ?_)
      simp -implicitDefEqProofs []
      (first | refine CallK.of (hai) (by simp) ?_ | refine CallD.of (hai) (by simp) ?_)
      simp -implicitDefEqProofs [isa, zI, wi]
      refine ⟨rfl, ?_⟩
      ((try simp only [onA, onC, onB, sc, cc]); refine Weak.sub (by simp [lk, keptA, AV.keys, onA, onC, onB, sc, cc]) ?_; simp only [onA, onC, onB, sc, cc, List.cons_append, List.nil_append, List.mem_cons, List.not_mem_nil, or_false, forall_eq_or_imp, forall_eq, and_true, and_true]; (try simp [lk, keptO, keptA, AV.keys, onA, onC, onB, sc, cc]))
    | some y =>
      have ev : atP b x.d x.l = (y, 0) := by simp [atP, ob, hf]
      have eb : clB b x = !decide (x = y) := by simp [clB, hf]
      have hsi := sameIssue_pc (G := R.G) x y wsm.1 wsm.2
      have ey : isa y = [.int .i64 y.d, .int .i64 y.l, .int .u8 y.k, .vsl (y.its.map ita), .vsl (y.dms.map dma)] := rfl
      rw [ev, ey] at hai
      rw [ex, ey] at hsi
      rw [hf] at cc
      simp only [if_true, Option.isSome_some] at cc
      by_cases e : x = y
      · rw [decide_eq_true e] at hsi eb
        rw [eb] at sc
        simp only [Bool.not_true, Bool.false_eq_true, if_false] at sc
        simp -implicitDefEqProofs [onA, onC, onB, hi, hx, ex]
        (first | refine CallK.of (hro) (by simp) ?_ | refine CallD.of (hro) (by simp) ?_)
        simp -implicitDefEqProofs []
        (first | refine CallK.of (hai) (by simp) ?_ | refine CallD.of (hai) (by simp) ?_)
        simp -implicitDefEqProofs [wc]
        refine ⟨rfl, ?_⟩
        (first | refine CallK.of (hsi) (by simp) ?_ | refine CallD.of (hsi) (by simp) ?_)
        simp -implicitDefEqProofs [wi]
        ((try simp only [onA, onC, onB, sc, cc]); refine Weak.sub (by simp [lk, keptA, AV.keys, onA, onC, onB, sc, cc]) ?_; simp only [onA, onC, onB, sc, cc, List.cons_append, List.nil_append, List.mem_cons, List.not_mem_nil, or_false, forall_eq_or_imp, forall_eq, and_true, and_true]; (try simp [lk, keptO, keptA, AV.keys, onA, onC, onB, sc, cc]))
      · rw [decide_eq_false e] at hsi eb
        rw [eb] at sc
        simp only [Bool.not_false, if_true] at sc
        have k1 := hlt1 eb
        have k2 := hat1 eb
        obtain ⟨k3, k4⟩ := List.getElem?_eq_some_iff.1 k2
        have k5 : ¬ (clN a b a.length).length ≤ (clN a b i).length := by omega
        simp -implicitDefEqProofs [onA, onC, onB, hi, hx, ex]
        (first | refine CallK.of (hro) (by simp) ?_ | refine CallD.of (hro) (by simp) ?_)
        simp -implicitDefEqProofs []
        (first | refine CallK.of (hai) (by simp) ?_ | refine CallD.of (hai) (by simp) ?_)
        simp -implicitDefEqProofs [wc]
        refine ⟨rfl, ?_⟩
        (first | refine CallK.of (hsi) (by simp) ?_ | refine CallD.of (hsi) (by simp) ?_)
        simp -implicitDefEqProofs [k1, k5, k4, ita]
        (first | refine CallK.of (hro) (by simp) ?_ | refine CallD.of (hro) (by simp) ?_)
        simp -implicitDefEqProofs [wd, wi]
        refine ⟨rfl, ?_⟩
        ((try simp only [onA, onC, onB, sc, cc, List.length_append, List.length_singleton]); refine Weak.sub (by simp [lk, keptA, AV.keys, onA, onC, onB, sc, cc, List.length_append, List.length_singleton]) ?_; simp only [onA, onC, onB, sc, cc, List.length_append, List.length_singleton, List.cons_append, List.nil_append, List.mem_cons, List.not_mem_nil, or_false, forall_eq_or_imp, forall_eq, and_true, and_true]; (try simp [lk, keptO, keptA, AV.keys, onA, onC, onB, sc, cc, List.length_append, List.length_singleton]))
  intro _
  refine GO_AR mixed 1000 ?_
  simp -implicitDefEqProofs [onA, onC, onB]
  refine GO_ret mixed 1000 ?_
  rcases hcase with ⟨rfl, h2, ox, wX, hmem, hcnt⟩ | ⟨h1, rfl⟩ | ⟨h1, h2⟩
  case inr.inl => simp -implicitDefEqProofs []
  case inr.inr => rcases h2 with rfl | rfl <;> simp -implicitDefEqProofs []
  have lX := open_listed ox
  have hck := checkP_pc hG X wX
  have hrx := ready_pc (G := R.G) X wX.2
  rw [ox, rega] at hck
  rw [ready_X ox, rega] at hrx
  have hcl := cmN_le a b a.length
  have w1 : IntKind.i64.wrap ((a.length : Int) + b.length) = (a.length : Int) + b.length := wrapI (by omega) (by omega)
  have w2 : IntKind.i64.wrap ((a.length : Int) + b.length - (cmN a b a.length : Int)) = X.length := by rw [wrapI (by omega) (by omega)]; omega
  have hatX := fun d l => at_pc hG X d l wX
  simp only [rega] at hatX
  simp -implicitDefEqProofs []
  (first | refine CallK.of (hck) (by simp) ?_ | refine CallD.of (hck) (by simp) ?_)
  simp -implicitDefEqProofs []
  (first | refine CallK.of (hrx) (by simp) ?_ | refine CallD.of (hrx) (by simp) ?_)
  simp -implicitDefEqProofs [w1, w2]
  obtain ⟨T, hT⟩ : ∃ T, T = [[AV.vsl (a.map isa)], [AV.vsl (b.map isa)]] := ⟨_, rfl⟩
  have hTe : (List.range 2).map (fun i => List.take 1 (List.drop i [AV.vsl (a.map isa), AV.vsl (b.map isa)])) = T := by rw [hT]; rfl
  have hTl : T.length = 2 := by rw [hT]; rfl
  have hTk : ∀ k (hk : k < T.length), ∃ rr : List Iss, T[k] = [.vsl (rr.map isa)] ∧ rr.length ≤ 60 ∧ ∀ x ∈ rr, x ∈ X := fun k hk => by
    subst hT
    match k, hk with
    | 0, _ => exact ⟨a, rfl, h60a.2, fun x hx => (hmem x).2 (.inl hx)⟩
    | 1, _ => exact ⟨b, rfl, h60b.2, fun x hx => (hmem x).2 (.inr hx)⟩
  refine AR_for (onT a b X T) (fun _ => True) 2 ?_ trivial ?_ ?_
  · ((try simp only [onT, hTe]); refine Weak.sub (by simp [lk, keptA, AV.keys, onT, hTe]) ?_; simp only [onT, hTe, List.cons_append, List.nil_append, List.mem_cons, List.not_mem_nil, or_false, forall_eq_or_imp, forall_eq, and_true, and_true]; (try simp [lk, keptO, keptA, AV.keys, onT, hTe]))
  · intro k hk _
    refine GO_AR mixed 1000 ?_
    have hkT : k < T.length := by omega
    obtain ⟨rr, e1, e2, e3⟩ := hTk k hkT
    have wk : IntKind.i64.wrap ((k : Int) + 1) = (k : Int) + 1 := wrapI (by omega) (by omega)
    have k2 : (k : Int) < 2 := by omega
    simp -implicitDefEqProofs [onT, hk, hkT, k2, e1]
    refine AR_for (onR X T k rr) (fun _ => True) rr.length ?_ trivial ?_ ?_
    · ((try simp only [onR]); refine Weak.sub (by simp [lk, keptA, AV.keys, onR]) ?_; simp only [onR, List.cons_append, List.nil_append, List.mem_cons, List.not_mem_nil, or_false, forall_eq_or_imp, forall_eq, and_true, and_true]; (try simp [lk, keptO, keptA, AV.keys, onR]))
    · intro j hj _
      refine GO_AR mixed 1000 ?_
      have wj : IntKind.i64.wrap ((j : Int) + 1) = (j : Int) + 1 := wrapI (by omega) (by omega)
      have ex : isa rr[j] = [.int .i64 rr[j].d, .int .i64 rr[j].l, .int .u8 rr[j].k, .vsl (rr[j].its.map ita), .vsl (rr[j].dms.map dma)] := rfl
      have hxX := e3 _ (List.getElem_mem hj)
      have hro := refOf_pc (G := R.G) rr[j]
      have hai := hatX rr[j].d rr[j].l
      have ev : atP X rr[j].d rr[j].l = (rr[j], 0) := by simp [atP, ox, find_own lX _ hxX]
      have wsm := wX.1.2 _ hxX
      have hsi := sameIssue_pc (G := R.G) rr[j] rr[j] wsm.1 wsm.2
      rw [decide_eq_true rfl] at hsi
      rw [ev] at hai
      generalize hx : rr[j] = x at *
      rw [ex] at hro hai hsi
      simp -implicitDefEqProofs [onR, hj, hx, ex]
      (first | refine CallK.of (hro) (by simp) ?_ | refine CallD.of (hro) (by simp) ?_)
      simp -implicitDefEqProofs []
      (first | refine CallK.of (hai) (by simp) ?_ | refine CallD.of (hai) (by simp) ?_)
      simp -implicitDefEqProofs []
      refine ⟨rfl, ?_⟩
      (first | refine CallK.of (hsi) (by simp) ?_ | refine CallD.of (hsi) (by simp) ?_)
      simp -implicitDefEqProofs [wj]
      ((try simp only [onR]); refine Weak.sub (by simp [lk, keptA, AV.keys, onR]) ?_; simp only [onR, List.cons_append, List.nil_append, List.mem_cons, List.not_mem_nil, or_false, forall_eq_or_imp, forall_eq, and_true, and_true]; (try simp [lk, keptO, keptA, AV.keys, onR]))
    · intro _
      refine GO_AR mixed 1000 ?_
      simp -implicitDefEqProofs [onR]
      refine GO_ret mixed 1000 ?_
      simp -implicitDefEqProofs [wk]
      ((try simp only [onT]); refine Weak.sub (by simp [lk, keptA, AV.keys, onT]) ?_; simp only [onT, List.cons_append, List.nil_append, List.mem_cons, List.not_mem_nil, or_false, forall_eq_or_imp, forall_eq, and_true, and_true]; (try simp [lk, keptO, keptA, AV.keys, onT]))
  · intro _
    refine GO_AR mixed 1000 ?_
    simp -implicitDefEqProofs [onT]
    refine GO_ret mixed 1000 ?_
    simp -implicitDefEqProofs []
end
end Go.Proofs.YtdpmioiamcgfkaaDoor
