/-
  The law SheetTells, by the abstract machine.
-/
import Derived.Test.YtdpmioiamcgfkaaDoorRcE
import Derived.Test.YtdpmioiamcgfkaaDoorEl
namespace Go.Proofs.YtdpmioiamcgfkaaDoor
open Go.RowKit

/-- The items, the first of which are struck. -/
def zR (l : List (Int × Int)) (i : Nat) : List (List AV) := (l.take i).map (fun p => [.int .i64 p.1, .int .i64 0]) ++ (l.drop i).map ita
theorem zR_len (l : List (Int × Int)) (i : Nat) : (zR l i).length = l.length := by simp [zR]; omega
theorem zR_get {l : List (Int × Int)} {i : Nat} (h : i < l.length) : (zR l i)[i]? = some [.int .i64 l[i].1, .int .i64 l[i].2] := by
  have e : ((l.take i).map (fun p => ([.int .i64 p.1, .int .i64 0] : List AV))).length = i := by simp; omega
  rw [zR, List.getElem?_append_right (by omega), e, Nat.sub_self, List.drop_eq_getElem_cons h]; rfl
theorem zR_at {l : List (Int × Int)} {i : Nat} (h : i < l.length) (h2 : i < (zR l i).length) : (zR l i)[i] = [.int .i64 l[i].1, .int .i64 l[i].2] := by
  have := zR_get h
  rw [List.getElem?_eq_getElem h2] at this
  exact Option.some.inj this
theorem zR_set {l : List (Int × Int)} {i : Nat} (h : i < l.length) : (zR l i).set i [.int .i64 l[i].1, .int .i64 0] = zR l (i + 1) := by
  have e : ((l.take i).map (fun p => ([.int .i64 p.1, .int .i64 0] : List AV))).length = i := by simp; omega
  rw [zR, List.set_append_right _ _ (by omega), e, Nat.sub_self, List.drop_eq_getElem_cons h, zR, List.take_succ_eq_append_getElem h, List.map_cons, List.set_cons_zero, List.map_append, List.append_assoc]; rfl
theorem zR_0 (l : List (Int × Int)) : zR l 0 = l.map ita := by simp [zR]
theorem zR_kept {l : List (Int × Int)} {i : Nat} (o : List (Nat × AObj)) : keptO o (.row 2 (zR l i)) = true := by
  simp only [keptO, List.all_eq_true, zR, List.mem_append, List.mem_map]
  rintro x (⟨y, -, rfl⟩ | ⟨y, -, rfl⟩) v hv
  · simp only [List.mem_cons, List.not_mem_nil, or_false] at hv
    rcases hv with rfl | rfl <;> simp [keptA, AV.keys]
  · simp only [ita, List.mem_cons, List.not_mem_nil, or_false] at hv
    rcases hv with rfl | rfl <;> simp [keptA, AV.keys]
/-- The sizes, the first of which are struck. -/
def wR (l : List Dm) (i : Nat) : List (List AV) := (l.take i).map (fun p => [.int .i64 p.n, .int .i64 (-7), .int .i64 p.u]) ++ (l.drop i).map dma
theorem wR_len (l : List Dm) (i : Nat) : (wR l i).length = l.length := by simp [wR]; omega
theorem wR_get {l : List Dm} {i : Nat} (h : i < l.length) : (wR l i)[i]? = some [.int .i64 l[i].n, .int .i64 l[i].l, .int .i64 l[i].u] := by
  have e : ((l.take i).map (fun p => ([.int .i64 p.n, .int .i64 (-7), .int .i64 p.u] : List AV))).length = i := by simp; omega
  rw [wR, List.getElem?_append_right (by omega), e, Nat.sub_self, List.drop_eq_getElem_cons h]; rfl
theorem wR_at {l : List Dm} {i : Nat} (h : i < l.length) (h2 : i < (wR l i).length) : (wR l i)[i] = [.int .i64 l[i].n, .int .i64 l[i].l, .int .i64 l[i].u] := by
  have := wR_get h
  rw [List.getElem?_eq_getElem h2] at this
  exact Option.some.inj this
theorem wR_set {l : List Dm} {i : Nat} (h : i < l.length) : (wR l i).set i [.int .i64 l[i].n, .int .i64 (-7), .int .i64 l[i].u] = wR l (i + 1) := by
  have e : ((l.take i).map (fun p => ([.int .i64 p.n, .int .i64 (-7), .int .i64 p.u] : List AV))).length = i := by simp; omega
  rw [wR, List.set_append_right _ _ (by omega), e, Nat.sub_self, List.drop_eq_getElem_cons h, wR, List.take_succ_eq_append_getElem h, List.map_cons, List.set_cons_zero, List.map_append, List.append_assoc]; rfl
theorem wR_0 (l : List Dm) : wR l 0 = l.map dma := by simp [wR]
theorem wR_kept {l : List Dm} {i : Nat} (o : List (Nat × AObj)) : keptO o (.row 3 (wR l i)) = true := by
  simp only [keptO, List.all_eq_true, wR, List.mem_append, List.mem_map]
  rintro x (⟨y, -, rfl⟩ | ⟨y, -, rfl⟩) v hv
  · simp only [List.mem_cons, List.not_mem_nil, or_false] at hv
    rcases hv with rfl | rfl | rfl <;> simp [keptA, AV.keys]
  · simp only [dma, List.mem_cons, List.not_mem_nil, or_false] at hv
    rcases hv with rfl | rfl | rfl <;> simp [keptA, AV.keys]
section
variable {G : Nat → Option (List AV)}

theorem atP_pc (hG : GC G) (r : List Iss) (d l : Int) (h : Wf r) (hn : openV r ≠ 0 ∨ findN d l r = none) : PC Tryd.prog G 27 [rega r, .agg [.int .i64 d, .int .i64 l]] (.tup [.agg (isa (atP r d l).1), .int .i64 (atP r d l).2]) := by
  by_cases e : openV r = 0
  · have hf : findN d l r = none := hn.resolve_left fun h => h e
    refine PC.nzR (v := .tup [.agg [.int .i64 0, .int .i64 0, .int .u8 0, .nils, .nils], .int .i64 6]) ?_ (by simp [nz, atP, e, hf, zI, isa])
    (refine pc_sheet_At (Nat.le_of_ble_eq_true rfl) fun R hG hrd => GO_AR mixed 1000 ?_; subst hG)
    have hL := open_listed e
    have hO := ord_of hL
    simp -implicitDefEqProofs [rc_sheet_At, rr_sheet_At, rega]
    (first | refine CallK.of (open_pc hG r h) (by simp) ?_ | refine CallD.of (open_pc hG r h) (by simp) ?_)
    simp -implicitDefEqProofs [openA, e]
    (first | refine CallK.of (find_pcS r (nums r) d l (ord_map hO) h.1.1 (find_own hL)) (by simp) ?_ | refine CallD.of (find_pcS r (nums r) d l (ord_map hO) h.1.1 (find_own hL)) (by simp) ?_)
    simp -implicitDefEqProofs [hf, fndA, noIs]
  · refine PC.nzR (v := .tup [.agg [.int .i64 0, .int .i64 0, .int .u8 0, .nils, .nils], .int .i64 (openV r)]) ?_ (by simp [nz, atP, e, zI, isa])
    (refine pc_sheet_At (Nat.le_of_ble_eq_true rfl) fun R hG hrd => GO_AR mixed 1000 ?_; subst hG)
    simp -implicitDefEqProofs [rc_sheet_At, rr_sheet_At, rega]
    (first | refine CallK.of (open_pc hG r h) (by simp) ?_ | refine CallD.of (open_pc hG r h) (by simp) ?_)
    simp -implicitDefEqProofs [openA, e]

theorem tells_pc (hG : GC G) (r : List Iss) (n d l : Int) (h : Wf r) : PC Tryd.prog G 3 [rega r, .int .i64 n, .agg [.int .i64 d, .int .i64 l]] (.bool true) := by
  (refine pc_law02_SheetTells (Nat.le_of_ble_eq_true rfl) fun R hG hrd => GO_AR mixed 1000 ?_; subst hG)
  simp -implicitDefEqProofs [rc_law02_SheetTells, rr_law02_SheetTells, rega]
  (first | refine CallK.of (great_pc r h.1.1) (by simp) ?_ | refine CallD.of (great_pc r h.1.1) (by simp) ?_)
  cases g : greatB r
  case true => simp -implicitDefEqProofs []
  simp -implicitDefEqProofs []
  (first | refine CallK.of (twin_pc r h.1) (by simp) ?_ | refine CallD.of (twin_pc r h.1) (by simp) ?_)
  simp -implicitDefEqProofs [rega]
  (first | refine CallK.of (drawP_pc hG r h) (by simp) ?_ | refine CallD.of (drawP_pc hG r h) (by simp) ?_)
  simp -implicitDefEqProofs []
  (first | refine CallK.of (drawR_pc r h) (by simp) ?_ | refine CallD.of (drawR_pc r h) (by simp) ?_)
  simp -implicitDefEqProofs []
  (first | refine CallK.of (lastP_pc hG r n h) (by simp) ?_ | refine CallD.of (lastP_pc hG r n h) (by simp) ?_)
  simp -implicitDefEqProofs []
  (first | refine CallK.of (lastR_pc r n h) (by simp) ?_ | refine CallD.of (lastR_pc r n h) (by simp) ?_)
  rw [draw_eq, last_eq]
  simp -implicitDefEqProofs []
  (first | refine CallK.of (checkP_pc hG r h) (by simp) ?_ | refine CallD.of (checkP_pc hG r h) (by simp) ?_)
  simp -implicitDefEqProofs []
  (first | refine CallK.of (checkR_pc r h) (by simp) ?_ | refine CallD.of (checkR_pc r h) (by simp) ?_)
  rw [← open_chk]
  simp -implicitDefEqProofs []
  (first | refine CallK.of (sameInts_pc _ _ (by split; exact nums_sml h.1.1; simp [Sml])) (by simp) ?_ | refine CallD.of (sameInts_pc _ _ (by split; exact nums_sml h.1.1; simp [Sml])) (by simp) ?_)
  simp -implicitDefEqProofs []
  refine ⟨rfl, ?_⟩
  have hx : Sml (atP r d l).1.its ∧ Sml (atP r d l).1.dms := by
    unfold atP
    split
    · split
      · rename_i x hf; exact h.1.2 x (findN_mem hf).1
      · simp [zI, Sml]
    · simp [zI, Sml]
  by_cases ok : openV r = 0 ∧ (findN d l r).isSome = true
  case neg =>
    have ok2 : openV r ≠ 0 ∨ findN d l r = none := by
      by_cases q : openV r = 0
      · exact .inr (by cases hf : findN d l r with
          | none => rfl
          | some x => exact absurd ⟨q, by rw [hf]; rfl⟩ ok)
      · exact .inl q
    have hp := atP_pc hG r d l h ok2
    have e1 : (atP r d l).1.its = [] := by
      unfold atP
      rcases ok2 with q | q
      · rw [if_neg q]; rfl
      · split <;> (try rw [q]) <;> rfl
    have e2 : (atP r d l).1.dms = [] := by
      unfold atP
      rcases ok2 with q | q
      · rw [if_neg q]; rfl
      · split <;> (try rw [q]) <;> rfl
    obtain ⟨⟨x, c⟩, ev⟩ : ∃ v, atP r d l = v := ⟨_, rfl⟩
    rw [ev] at hp hx e1 e2
    simp only at hp hx e1 e2
    have k5 : (x.its.map ita).all (fun r => r.all AV.pure) = true := by simp [ita, AV.pure]
    have k6 : (x.dms.map dma).all (fun r => r.all AV.pure) = true := by simp [dma, AV.pure]
    refine CallK.of hp (by simp) ?_
    simp -implicitDefEqProofs [isa, e1, e2]
    (first | refine CallK.of (atR_pc r d l h) (by simp) ?_ | refine CallD.of (atR_pc r d l h) (by simp) ?_)
    rw [at_eqV, ev]
    simp -implicitDefEqProofs [isa, e1, e2]
    (first | refine CallK.of (depthP_pc hG r n h) (by simp) ?_ | refine CallD.of (depthP_pc hG r n h) (by simp) ?_)
    simp -implicitDefEqProofs []
    (first | refine CallK.of (depthR_pc r n h) (by simp) ?_ | refine CallD.of (depthR_pc r n h) (by simp) ?_)
    rw [dep_eq]
    simp -implicitDefEqProofs []
    refine CallK.flat (sameIssue_pc x x hx.1 hx.2) (by simp [AV.flat]) (by simp [isa, snapF, snapL, e1, e2]) ?_
    simp -implicitDefEqProofs []
    refine AR_for (fun i => ⟨[(118, .int .i64 i), (117, .int .i64 x.its.length), (16, .ptr 16 0), (18, .bool true), (7, .ptr 7 0), (3, .ptr 3 0)], [(3, .box [.vsl (r.map isa)]), (7, .box [.vsl (r.map isa)]), (16, .box [.int .i64 x.d, .int .i64 x.l, .int .u8 x.k, .vsl [], .vsl []])]⟩) (fun _ => True) x.its.length (by (try simp only [zR_0, wR_0]); exact Weak.sub (by simp [lk, keptA, AV.keys, e1, e2]) (by simp [lk, keptO, keptA, AV.keys])) trivial ?_ ?_
    · intro i hi _
      rw [e1] at hi; exact absurd hi (Nat.not_lt_zero _)
    intro _
    refine GO_AR mixed 1000 ?_
    simp -implicitDefEqProofs []
    refine GO_ret mixed 1000 ?_
    simp -implicitDefEqProofs []
    refine AR_for (fun i => ⟨[(130, .int .i64 i), (129, .int .i64 x.dms.length), (16, .ptr 16 0), (18, .bool true), (7, .ptr 7 0), (3, .ptr 3 0)], [(3, .box [.vsl (r.map isa)]), (7, .box [.vsl (r.map isa)]), (16, .box [.int .i64 x.d, .int .i64 x.l, .int .u8 x.k, .vsl [], .vsl []])]⟩) (fun _ => True) x.dms.length (by (try simp only [wR_0]); exact Weak.sub (by simp [lk, keptA, AV.keys, e1, e2]) (by simp only [List.mem_cons, List.not_mem_nil, or_false, forall_eq_or_imp, forall_eq]; simp [lk, keptO, keptA, AV.keys])) trivial ?_ ?_
    · intro i hi _
      rw [e2] at hi; exact absurd hi (Nat.not_lt_zero _)
    intro _
    refine GO_AR mixed 1000 ?_
    simp -implicitDefEqProofs []
    refine GO_ret mixed 1000 ?_
    simp -implicitDefEqProofs []
    (first | refine CallK.of (same_pc r r h.1) (by simp) ?_ | refine CallD.of (same_pc r r h.1) (by simp) ?_)
    simp -implicitDefEqProofs []

  have hp := atP_pb hG r d l h ok.1 ok.2
  obtain ⟨⟨x, c⟩, ev⟩ : ∃ v, atP r d l = v := ⟨_, rfl⟩
  rw [ev] at hp hx
  simp only at hp hx
  have k5 : (x.its.map ita).all (fun r => r.all AV.pure) = true := by simp [ita, AV.pure]
  have k6 : (x.dms.map dma).all (fun r => r.all AV.pure) = true := by simp [dma, AV.pure]
  by_cases e1 : x.its = [] <;> by_cases e2 : x.dms = []
  · refine CallK.sem (CallSem.objs hp id (by simp [owQ, owO, e1, e2]) (by simp [owQ, owO, e1, e2, St.get, lk]) (by simp) rfl rfl) ?_
    simp -implicitDefEqProofs [owI, owQ, owV, owO, setsB, AV.ren, e1, e2]
    (first | refine CallK.of (atR_pc r d l h) (by simp) ?_ | refine CallD.of (atR_pc r d l h) (by simp) ?_)
    rw [at_eqV, ev]
    simp -implicitDefEqProofs [isa, e1, e2]
    (first | refine CallK.of (depthP_pc hG r n h) (by simp) ?_ | refine CallD.of (depthP_pc hG r n h) (by simp) ?_)
    simp -implicitDefEqProofs []
    (first | refine CallK.of (depthR_pc r n h) (by simp) ?_ | refine CallD.of (depthR_pc r n h) (by simp) ?_)
    rw [dep_eq]
    simp -implicitDefEqProofs []
    refine CallK.flat (sameIssue_pc x x hx.1 hx.2) (by simp [AV.flat]) (by simp [isa, snapF, snapL, e1, e2]) ?_
    simp -implicitDefEqProofs []
    refine AR_for (fun i => ⟨[(118, .int .i64 i), (117, .int .i64 x.its.length), (16, .ptr 16 0), (18, .bool true), (7, .ptr 7 0), (3, .ptr 3 0)], [(3, .box [.vsl (r.map isa)]), (7, .box [.vsl (r.map isa)]), (16, .box [.int .i64 x.d, .int .i64 x.l, .int .u8 x.k, .vsl [], .vsl []])]⟩) (fun _ => True) x.its.length (by (try simp only [zR_0, wR_0]); exact Weak.sub (by simp [lk, keptA, AV.keys, e1, e2]) (by simp [lk, keptO, keptA, AV.keys])) trivial ?_ ?_
    · intro i hi _
      rw [e1] at hi; exact absurd hi (Nat.not_lt_zero _)
    intro _
    refine GO_AR mixed 1000 ?_
    simp -implicitDefEqProofs []
    refine GO_ret mixed 1000 ?_
    simp -implicitDefEqProofs []
    refine AR_for (fun i => ⟨[(130, .int .i64 i), (129, .int .i64 x.dms.length), (16, .ptr 16 0), (18, .bool true), (7, .ptr 7 0), (3, .ptr 3 0)], [(3, .box [.vsl (r.map isa)]), (7, .box [.vsl (r.map isa)]), (16, .box [.int .i64 x.d, .int .i64 x.l, .int .u8 x.k, .vsl [], .vsl []])]⟩) (fun _ => True) x.dms.length (by (try simp only [wR_0]); exact Weak.sub (by simp [lk, keptA, AV.keys, e1, e2]) (by simp only [List.mem_cons, List.not_mem_nil, or_false, forall_eq_or_imp, forall_eq]; simp [lk, keptO, keptA, AV.keys])) trivial ?_ ?_
    · intro i hi _
      rw [e2] at hi; exact absurd hi (Nat.not_lt_zero _)
    intro _
    refine GO_AR mixed 1000 ?_
    simp -implicitDefEqProofs []
    refine GO_ret mixed 1000 ?_
    simp -implicitDefEqProofs []
    (first | refine CallK.of (same_pc r r h.1) (by simp) ?_ | refine CallD.of (same_pc r r h.1) (by simp) ?_)
    simp -implicitDefEqProofs []
  · refine CallK.sem (CallSem.objs hp id (by simp [owQ, owO, e1, e2]) (by simp [owQ, owO, e1, e2, St.get, lk]) (by simp) rfl rfl) ?_
    simp -implicitDefEqProofs [owI, owQ, owV, owO, setsB, ren_rowD, AV.ren, e1, e2]
    (first | refine CallK.of (atR_pc r d l h) (by simp) ?_ | refine CallD.of (atR_pc r d l h) (by simp) ?_)
    rw [at_eqV, ev]
    simp -implicitDefEqProofs [isa, e1]
    (first | refine CallK.of (depthP_pc hG r n h) (by simp) ?_ | refine CallD.of (depthP_pc hG r n h) (by simp) ?_)
    simp -implicitDefEqProofs []
    (first | refine CallK.of (depthR_pc r n h) (by simp) ?_ | refine CallD.of (depthR_pc r n h) (by simp) ?_)
    rw [dep_eq]
    simp -implicitDefEqProofs []
    refine CallK.flat (sameIssue_pc x x hx.1 hx.2) (by simp [AV.flat]) (by simp [isa, k6, snapF, snapL, St.get, lk, e1]) ?_
    simp -implicitDefEqProofs []
    refine AR_for (fun i => ⟨[(118, .int .i64 i), (117, .int .i64 x.its.length), (16, .ptr 16 0), (18, .bool true), (7, .ptr 7 0), (3, .ptr 3 0)], [(3, .box [.vsl (r.map isa)]), (7, .box [.vsl (r.map isa)]), (16, .box [.int .i64 x.d, .int .i64 x.l, .int .u8 x.k, .vsl [], .osl 1008 x.dms.length]), (1008, .row 3 (wR x.dms 0))]⟩) (fun _ => True) x.its.length (by (try simp only [wR_0]); exact Weak.sub (by simp [lk, keptA, AV.keys, e1, e2]) (by simp [lk, keptO, keptA, AV.keys, dma])) trivial ?_ ?_
    · intro i hi _
      rw [e1] at hi; exact absurd hi (Nat.not_lt_zero _)
    intro _
    refine GO_AR mixed 1000 ?_
    simp -implicitDefEqProofs []
    refine GO_ret mixed 1000 ?_
    simp -implicitDefEqProofs [wR_len]
    refine AR_for (fun i => ⟨[(130, .int .i64 i), (129, .int .i64 x.dms.length), (16, .ptr 16 0), (18, .bool true), (7, .ptr 7 0), (3, .ptr 3 0)], [(3, .box [.vsl (r.map isa)]), (7, .box [.vsl (r.map isa)]), (16, .box [.int .i64 x.d, .int .i64 x.l, .int .u8 x.k, .vsl [], .osl 1008 x.dms.length]), (1008, .row 3 (wR x.dms i))]⟩) (fun _ => True) x.dms.length (by (try simp only [wR_0]); exact Weak.sub (by simp [lk, keptA, AV.keys, e1, e2]) (by simp only [List.mem_cons, List.not_mem_nil, or_false, forall_eq_or_imp, forall_eq]; simp [lk, keptO, keptA, AV.keys, dma])) trivial ?_ ?_
    · intro i hi _
      refine GO_AR mixed 1000 ?_
      have h2 := hx.2
      unfold Sml at h2
      have w1 : IntKind.i64.wrap ((i : Int) + 1) = ((i + 1 : Nat) : Int) := wrapI (by omega) (by omega)
      have zl := wR_len x.dms i
      have za := wR_at hi (by omega)
      have zs := wR_set hi
      simp -implicitDefEqProofs [hi, w1, zl, za, zs]
      exact Weak.sub (by simp [lk, keptA, AV.keys]) (by simp only [List.mem_cons, List.not_mem_nil, or_false, forall_eq_or_imp, forall_eq, wR_kept, and_true]; simp [lk, keptO, keptA, AV.keys])
    intro _
    refine GO_AR mixed 1000 ?_
    simp -implicitDefEqProofs []
    refine GO_ret mixed 1000 ?_
    simp -implicitDefEqProofs []
    (first | refine CallK.of (same_pc r r h.1) (by simp) ?_ | refine CallD.of (same_pc r r h.1) (by simp) ?_)
    simp -implicitDefEqProofs []
  · refine CallK.sem (CallSem.objs hp id (by simp [owQ, owO, e1, e2]) (by simp [owQ, owO, e1, e2, St.get, lk]) (by simp) rfl rfl) ?_
    simp -implicitDefEqProofs [owI, owQ, owV, owO, setsB, ren_rowI, AV.ren, e1, e2]
    (first | refine CallK.of (atR_pc r d l h) (by simp) ?_ | refine CallD.of (atR_pc r d l h) (by simp) ?_)
    rw [at_eqV, ev]
    simp -implicitDefEqProofs [isa, e2]
    (first | refine CallK.of (depthP_pc hG r n h) (by simp) ?_ | refine CallD.of (depthP_pc hG r n h) (by simp) ?_)
    simp -implicitDefEqProofs []
    (first | refine CallK.of (depthR_pc r n h) (by simp) ?_ | refine CallD.of (depthR_pc r n h) (by simp) ?_)
    rw [dep_eq]
    simp -implicitDefEqProofs []
    refine CallK.flat (sameIssue_pc x x hx.1 hx.2) (by simp [AV.flat]) (by simp [isa, k5, snapF, snapL, St.get, lk, e2]) ?_
    simp -implicitDefEqProofs []
    refine AR_for (fun i => ⟨[(118, .int .i64 i), (117, .int .i64 x.its.length), (16, .ptr 16 0), (18, .bool true), (7, .ptr 7 0), (3, .ptr 3 0)], [(3, .box [.vsl (r.map isa)]), (7, .box [.vsl (r.map isa)]), (16, .box [.int .i64 x.d, .int .i64 x.l, .int .u8 x.k, .osl 1005 x.its.length, .vsl []]), (1005, .row 2 (zR x.its i))]⟩) (fun _ => True) x.its.length (by (try simp only [zR_0]); exact Weak.sub (by simp [lk, keptA, AV.keys, e1, e2]) (by simp [lk, keptO, keptA, AV.keys, ita])) trivial ?_ ?_
    · intro i hi _
      refine GO_AR mixed 1000 ?_
      have h1 := hx.1
      unfold Sml at h1
      have w1 : IntKind.i64.wrap ((i : Int) + 1) = ((i + 1 : Nat) : Int) := wrapI (by omega) (by omega)
      have zl := zR_len x.its i
      have za := zR_at hi (by omega)
      have zs := zR_set hi
      simp -implicitDefEqProofs [hi, w1, zl, za, zs]
      exact Weak.sub (by simp [lk, keptA, AV.keys]) (by simp only [List.mem_cons, List.not_mem_nil, or_false, forall_eq_or_imp, forall_eq, zR_kept, and_true]; simp [lk, keptO, keptA, AV.keys])
    intro _
    refine GO_AR mixed 1000 ?_
    simp -implicitDefEqProofs []
    refine GO_ret mixed 1000 ?_
    simp -implicitDefEqProofs []
    refine AR_for (fun i => ⟨[(130, .int .i64 i), (129, .int .i64 x.dms.length), (16, .ptr 16 0), (18, .bool true), (7, .ptr 7 0), (3, .ptr 3 0)], [(3, .box [.vsl (r.map isa)]), (7, .box [.vsl (r.map isa)]), (16, .box [.int .i64 x.d, .int .i64 x.l, .int .u8 x.k, .osl 1005 x.its.length, .vsl []]), (1005, .row 2 (zR x.its x.its.length))]⟩) (fun _ => True) x.dms.length (by (try simp only [wR_0]); exact Weak.sub (by simp [lk, keptA, AV.keys, e1, e2]) (by simp only [List.mem_cons, List.not_mem_nil, or_false, forall_eq_or_imp, forall_eq, zR_kept, and_true]; simp [lk, keptO, keptA, AV.keys])) trivial ?_ ?_
    · intro i hi _
      rw [e2] at hi; exact absurd hi (Nat.not_lt_zero _)
    intro _
    refine GO_AR mixed 1000 ?_
    simp -implicitDefEqProofs []
    refine GO_ret mixed 1000 ?_
    simp -implicitDefEqProofs []
    (first | refine CallK.of (same_pc r r h.1) (by simp) ?_ | refine CallD.of (same_pc r r h.1) (by simp) ?_)
    simp -implicitDefEqProofs []
  · refine CallK.sem (CallSem.objs hp id (by simp [owQ, owO, e1, e2]) (by simp [owQ, owO, e1, e2, St.get, lk]) (by simp) rfl rfl) ?_
    simp -implicitDefEqProofs [owI, owQ, owV, owO, setsB, ren_rowI, ren_rowD, AV.ren, e1, e2]
    (first | refine CallK.of (atR_pc r d l h) (by simp) ?_ | refine CallD.of (atR_pc r d l h) (by simp) ?_)
    rw [at_eqV, ev]
    simp -implicitDefEqProofs [isa]
    (first | refine CallK.of (depthP_pc hG r n h) (by simp) ?_ | refine CallD.of (depthP_pc hG r n h) (by simp) ?_)
    simp -implicitDefEqProofs []
    (first | refine CallK.of (depthR_pc r n h) (by simp) ?_ | refine CallD.of (depthR_pc r n h) (by simp) ?_)
    rw [dep_eq]
    simp -implicitDefEqProofs []
    refine CallK.flat (sameIssue_pc x x hx.1 hx.2) (by simp [AV.flat]) (by simp [isa, k5, k6, snapF, snapL, St.get, lk]) ?_
    simp -implicitDefEqProofs []
    refine AR_for (fun i => ⟨[(118, .int .i64 i), (117, .int .i64 x.its.length), (16, .ptr 16 0), (18, .bool true), (7, .ptr 7 0), (3, .ptr 3 0)], [(3, .box [.vsl (r.map isa)]), (7, .box [.vsl (r.map isa)]), (16, .box [.int .i64 x.d, .int .i64 x.l, .int .u8 x.k, .osl 1005 x.its.length, .osl 1008 x.dms.length]), (1005, .row 2 (zR x.its i)), (1008, .row 3 (wR x.dms 0))]⟩) (fun _ => True) x.its.length (by (try simp only [zR_0, wR_0]); exact Weak.sub (by simp [lk, keptA, AV.keys, e1, e2]) (by simp [lk, keptO, keptA, AV.keys, ita, dma])) trivial ?_ ?_
    · intro i hi _
      refine GO_AR mixed 1000 ?_
      have h1 := hx.1
      unfold Sml at h1
      have w1 : IntKind.i64.wrap ((i : Int) + 1) = ((i + 1 : Nat) : Int) := wrapI (by omega) (by omega)
      have zl := zR_len x.its i
      have za := zR_at hi (by omega)
      have zs := zR_set hi
      simp -implicitDefEqProofs [hi, w1, zl, za, zs]
      exact Weak.sub (by simp [lk, keptA, AV.keys]) (by simp only [List.mem_cons, List.not_mem_nil, or_false, forall_eq_or_imp, forall_eq, zR_kept, wR_kept, and_true]; simp [lk, keptO, keptA, AV.keys])
    intro _
    refine GO_AR mixed 1000 ?_
    simp -implicitDefEqProofs []
    refine GO_ret mixed 1000 ?_
    simp -implicitDefEqProofs [wR_len]
    refine AR_for (fun i => ⟨[(130, .int .i64 i), (129, .int .i64 x.dms.length), (16, .ptr 16 0), (18, .bool true), (7, .ptr 7 0), (3, .ptr 3 0)], [(3, .box [.vsl (r.map isa)]), (7, .box [.vsl (r.map isa)]), (16, .box [.int .i64 x.d, .int .i64 x.l, .int .u8 x.k, .osl 1005 x.its.length, .osl 1008 x.dms.length]), (1005, .row 2 (zR x.its x.its.length)), (1008, .row 3 (wR x.dms i))]⟩) (fun _ => True) x.dms.length (by (try simp only [wR_0]); exact Weak.sub (by simp [lk, keptA, AV.keys, e1, e2]) (by simp only [List.mem_cons, List.not_mem_nil, or_false, forall_eq_or_imp, forall_eq, zR_kept, and_true]; simp [lk, keptO, keptA, AV.keys, dma])) trivial ?_ ?_
    · intro i hi _
      refine GO_AR mixed 1000 ?_
      have h2 := hx.2
      unfold Sml at h2
      have w1 : IntKind.i64.wrap ((i : Int) + 1) = ((i + 1 : Nat) : Int) := wrapI (by omega) (by omega)
      have zl := wR_len x.dms i
      have za := wR_at hi (by omega)
      have zs := wR_set hi
      simp -implicitDefEqProofs [hi, w1, zl, za, zs]
      exact Weak.sub (by simp [lk, keptA, AV.keys]) (by simp only [List.mem_cons, List.not_mem_nil, or_false, forall_eq_or_imp, forall_eq, zR_kept, wR_kept, and_true]; simp [lk, keptO, keptA, AV.keys])
    intro _
    refine GO_AR mixed 1000 ?_
    simp -implicitDefEqProofs []
    refine GO_ret mixed 1000 ?_
    simp -implicitDefEqProofs []
    (first | refine CallK.of (same_pc r r h.1) (by simp) ?_ | refine CallD.of (same_pc r r h.1) (by simp) ?_)
    simp -implicitDefEqProofs []
end
end Go.Proofs.YtdpmioiamcgfkaaDoor
