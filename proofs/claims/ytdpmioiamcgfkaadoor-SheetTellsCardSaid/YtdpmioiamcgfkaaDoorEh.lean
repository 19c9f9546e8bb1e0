/-
  Lists in new memory; issues that are copied, by the abstract machine.
-/
import Derived.Test.YtdpmioiamcgfkaaDoorEg
import Derived.Test.YtdpmioiamcgfkaaDoorAmP
namespace Go.Proofs.YtdpmioiamcgfkaaDoor
open Go.RowKit

/-- The end of a function, where nil and empty lists are the same. -/
def FinZ (rs : List RRes) (v : AV) : Exit → St → Prop
  | .normal, st | .ret, st => ∃ xs ys, evRess st rs = some xs ∧ snapL (snap st) xs = some ys ∧ v = nz (tupV ys)
  | _, _ => False

theorem PCz_of {P : Program} {G : Nat → Option (List AV)} {f : FuncId} {fn : Func} {c : Code} {rc : RCode} {rs : List RRes} {args : List AV} {v : AV} (hf : P.funcs[f]? = some fn) (hb : fn.body = some c) (he : entB P f = true)
    (hc : okCode P fn.ntmps c rc = true) (hrs : allB2 (okRes P) fn.results.toList rs = true) (hn : args.length ≤ fn.ntmps)
    (h : ∀ R : Run, R.N = fn.ntmps → R.G = G → R.Top → AR P R rc (initSt args) (FinZ rs v)) : PC P G f args v := by
  refine ⟨he, fun M W vs hM hG hsz hvs => ?_⟩
  refine callsIn_wide.1 (callsIn_of_wp_marks (F := FW none) (n := 1) hf hb trivial ?_)
  let R : Run := { G := G, M := M, X := fun _ => False, W0 := W, N := fn.ntmps, E0 := { M := M, loc := fun _ => none, row := fun _ => none } }
  have h0 : SK R (initSt args) { tmps := vs ++ Array.replicate (fn.ntmps - vs.size) Go.undef, defers := [] } W (fun _ => none) := by
    have hGM : ∀ b, b < W.heap.size → ¬ M b → ¬ ((initSt args).env M (fun _ => none)).M b ∧ W.heap[b]? = W.heap[b]? := fun b _ h1 => ⟨(by rintro (h2 | ⟨k, s, h2⟩) <;> first | exact h1 h2 | cases h2), rfl⟩
    refine ⟨.nil _ _ _ _, by show (vs ++ _).size = fn.ntmps; simp; omega, fun n x hx => ?_, (fun k o ho => by simp [initSt, St.get, lk] at ho), (fun k p hk => by cases hk), (fun k k' b s s' hk => by cases hk), hM, fun _ _ h => h, Kp.refl _ _, hG.mono hGM (Nat.le_refl _), ⟨Nat.le_refl _, hGM, fun k p hk => (by cases hk), fun k sz m hk => (by cases hk)⟩, fun _ _ => ⟨rfl, rfl⟩⟩
    simp only [initSt, St.tmp, iniT_lk, Nat.zero_le, if_true, Nat.sub_zero] at hx
    show VR _ W x ((vs ++ Array.replicate (fn.ntmps - vs.size) Go.undef).getD n Go.undef)
    rw [Array.getD_eq_getD_getElem?, Array.getElem?_append]
    have c1 : n < args.length := (List.getElem?_eq_some_iff.1 hx).1
    rw [if_pos (by omega)]
    have : vs[n]? = some vs[n] := by simp
    rw [this]
    exact .pv ((hvs n x _ hx this).mono hGM (Nat.le_refl _))
  refine wpIn_mono (h R rfl rfl ⟨rfl, rfl⟩ c hc 1 _ W ⟨_, h0⟩) ?_
  have key : ∀ (a' : Act) (W' : World) (st' : St), (∃ xs ys, evRess st' rs = some xs ∧ snapL (snap st') xs = some ys ∧ v = nz (tupV ys)) → SR R st' a' W' →
      ∃ u, (results fn a'.tmps).run P W' = .ok u W' ∧ ∃ u', Ending.returned u = .returned u' ∧ PV M W' v u' ∧ Ext W W' := by
    rintro a' W' st' ⟨xs, ys, h1, h2, rfl⟩ ⟨κ, hk⟩
    obtain ⟨us, h3, h4⟩ := ress_run (P := P) hk hrs h1
    obtain ⟨h5, h6⟩ := snapL_spec h2
    have hE : Ext W W' := ⟨hk.kp.os, hk.kp.tape, hk.kp.output, hk.kp.size, fun i hi => hk.kp.block i hi (fun h => h)⟩
    have hp : ∀ (i : Nat) (y : AV) (u : Value), ys[i]? = some y → us[i]? = some u → PV M W' y u := fun i y u hy hu => by
      obtain ⟨x, h7, h8⟩ := h6 i y hy
      exact snap_sim hk (h4.2 i x u h7 hu) h8
    have hl : us.length = ys.length := by have := h4.1; omega
    refine ⟨(if h : us.toArray.size = 1 then us.toArray[0] else .tuple us.toArray), ?_, _, rfl, PV.nz ?_, hE⟩
    · unfold results
      rw [Sem.run_bind]
      have : (fn.results.mapM fun rv => (match rv with
        | .tmp t => pure (a'.tmps.getD t Go.undef)
        | .cell p t => do loadVar t (← asAddr (a'.tmps.getD p Go.undef)) : Sem Value)).run P W' = .ok us.toArray W' := by
        rw [Array.mapM_eq_mapM_toList, Sem.run_map]
        exact congrArg (fun z => Result.andThen z (fun a w' => Result.ok a.toArray w')) h3
      erw [this]
      rfl
    · match ys, us, hl, hp with
      | [], [], _, _ => exact .tup [] _ rfl (by simp)
      | [y], [u], _, hp => exact hp 0 y u rfl rfl
      | y :: y2 :: ys, u :: u2 :: us, hl, hp =>
        rw [dif_neg (by simp)]
        exact .tup _ _ (by simpa using hl) (fun i x w hx hw => hp i x w hx (by simpa using hw))
  rintro e a' W' ⟨st', h1, κ, h2⟩
  cases e <;> try (exact h1.elim)
  all_goals
    refine h2.leave (by simp) rfl fun a2 W2 ht hs2 => ?_
    have := key a2 W2 st' h1 ⟨κ, hs2⟩
    rw [ht] at this
    exact this

section
variable {G : Nat → Option (List AV)}

/-- A list that is owned, if it is not empty. -/
def owV (k : Nat) (l : List (List AV)) : AV := if l = [] then .vsl [] else .osl k l.length
def owO (k sz : Nat) (l : List (List AV)) : List (Nat × AObj) := if l = [] then [] else [(k, .row sz l)]

theorem ita_flat (l : List (Int × Int)) : ∀ r ∈ l.map ita, ∀ x ∈ r, x.flat = true := by
  intro r hr x hx
  obtain ⟨p, -, rfl⟩ := List.mem_map.1 hr
  simp only [ita, List.mem_cons, List.not_mem_nil, or_false] at hx
  rcases hx with rfl | rfl <;> simp [AV.flat]
theorem ita_pure (l : List (Int × Int)) : ∀ r ∈ l.map ita, ∀ x ∈ r, x.pure = true := by
  intro r hr x hx
  obtain ⟨p, -, rfl⟩ := List.mem_map.1 hr
  simp only [ita, List.mem_cons, List.not_mem_nil, or_false] at hx
  rcases hx with rfl | rfl <;> simp [AV.pure]
theorem dma_flat (l : List Dm) : ∀ r ∈ l.map dma, ∀ x ∈ r, x.flat = true := by
  intro r hr x hx
  obtain ⟨p, -, rfl⟩ := List.mem_map.1 hr
  simp only [dma, List.mem_cons, List.not_mem_nil, or_false] at hx
  rcases hx with rfl | rfl | rfl <;> simp [AV.flat]
theorem dma_pure (l : List Dm) : ∀ r ∈ l.map dma, ∀ x ∈ r, x.pure = true := by
  intro r hr x hx
  obtain ⟨p, -, rfl⟩ := List.mem_map.1 hr
  simp only [dma, List.mem_cons, List.not_mem_nil, or_false] at hx
  rcases hx with rfl | rfl | rfl <;> simp [AV.pure]

theorem cloneI_pn (l : List (Int × Int)) (hne : l ≠ []) (hl : Sml l) : PN Tryd.prog G 108 [.vsl (l.map ita)] 2 (l.map ita) := by
  refine PN_of (ita_flat l) (ita_pure l) Tryd.func108 rfl (by kernel_rfl) (rc := rc_slices_Clone_api_Item_api_Item) (by kernel_rfl) (rs := rr_slices_Clone_api_Item_api_Item) (by kernel_rfl) (Nat.le_of_ble_eq_true rfl) fun R _ hG hrd => GO_AR mixed 1000 ?_
  unfold Sml at hl
  have b1 : l.length * 16 ≤ 70368744177664 := by omega
  have h0 : ¬ l.length = 0 := fun e => hne (List.length_eq_zero_iff.1 e)
  have k1 : (l.map ita).all (fun r => r.length == 2) = true := by simp [ita]
  have k2 : (l.map ita).all (fun r => r.all AV.one) = true := by simp [ita, AV.one]
  have k5 : (l.map ita).all (fun r => r.all AV.pure) = true := by simp [ita, AV.pure]
  simp -implicitDefEqProofs [rc_slices_Clone_api_Item_api_Item, rr_slices_Clone_api_Item_api_Item, h0, hne, b1, k1, k2, k5, FinN]

theorem cloneD_pn (l : List Dm) (hne : l ≠ []) (hl : Sml l) : PN Tryd.prog G 109 [.vsl (l.map dma)] 3 (l.map dma) := by
  refine PN_of (dma_flat l) (dma_pure l) Tryd.func109 rfl (by kernel_rfl) (rc := rc_slices_Clone_api_Dim_api_Dim) (by kernel_rfl) (rs := rr_slices_Clone_api_Dim_api_Dim) (by kernel_rfl) (Nat.le_of_ble_eq_true rfl) fun R _ hG hrd => GO_AR mixed 1000 ?_
  unfold Sml at hl
  have b1 : l.length * 24 ≤ 70368744177664 := by omega
  have h0 : ¬ l.length = 0 := fun e => hne (List.length_eq_zero_iff.1 e)
  have k1 : (l.map dma).all (fun r => r.length == 3) = true := by simp [dma]
  have k2 : (l.map dma).all (fun r => r.all AV.one) = true := by simp [dma, AV.one]
  have k5 : (l.map dma).all (fun r => r.all AV.pure) = true := by simp [dma, AV.pure]
  simp -implicitDefEqProofs [rc_slices_Clone_api_Dim_api_Dim, rr_slices_Clone_api_Dim_api_Dim, h0, hne, b1, k1, k2, k5, FinN]

theorem cloneI_pc0 : PC Tryd.prog G 108 [.vsl []] (.vsl []) := by
  refine PCz_of Tryd.func108 rfl (by kernel_rfl) (rc := rc_slices_Clone_api_Item_api_Item) (by kernel_rfl) (rs := rr_slices_Clone_api_Item_api_Item) (by kernel_rfl) (Nat.le_of_ble_eq_true rfl) fun R _ hG hrd => GO_AR mixed 1000 ?_
  simp -implicitDefEqProofs [rc_slices_Clone_api_Item_api_Item, rr_slices_Clone_api_Item_api_Item, FinZ, nz]

theorem cloneD_pc0 : PC Tryd.prog G 109 [.vsl []] (.vsl []) := by
  refine PCz_of Tryd.func109 rfl (by kernel_rfl) (rc := rc_slices_Clone_api_Dim_api_Dim) (by kernel_rfl) (rs := rr_slices_Clone_api_Dim_api_Dim) (by kernel_rfl) (Nat.le_of_ble_eq_true rfl) fun R _ hG hrd => GO_AR mixed 1000 ?_
  simp -implicitDefEqProofs [rc_slices_Clone_api_Dim_api_Dim, rr_slices_Clone_api_Dim_api_Dim, FinZ, nz]

theorem frz_rowI (ok : Nat → Bool) (st : St) (l : List (Int × Int)) : frzO ok st (.row 2 (l.map ita)) = .row 2 (l.map ita) := by
  simp only [frzO, List.map_map]
  congr 2
  funext p; simp [ita, frzA, frz, AV.keys]
theorem frz_rowD (ok : Nat → Bool) (st : St) (l : List Dm) : frzO ok st (.row 3 (l.map dma)) = .row 3 (l.map dma) := by
  simp only [frzO, List.map_map]
  congr 2
  funext p; simp [dma, frzA, frz, AV.keys]

/-- What is kept of the copy. -/
def cpK (k : Nat) : Bool := decide (k < 1000) && !(k == 5 || k == 8)
theorem copied_pb (x : Iss) (h1 : Sml x.its) (h2 : Sml x.dms) : PB Tryd.prog G 73 [] [.agg (isa x)] (.agg [.int .i64 x.d, .int .i64 x.l, .int .u8 x.k, owV 5 (x.its.map ita), owV 8 (x.dms.map dma)]) (owO 5 2 (x.its.map ita) ++ owO 8 3 (x.dms.map dma)) := by
  refine PBo_of cpK (by intro k hk; simp [cpK] at hk; omega) Tryd.func73 rfl (by kernel_rfl) (rc := rc_sheet_copied) (by kernel_rfl) (rs := rr_sheet_copied) (by kernel_rfl) (Nat.le_of_ble_eq_true rfl) fun R _ hG hrd => GO_AR mixed 1000 ?_
  subst hG
  by_cases e1 : x.its = [] <;> by_cases e2 : x.dms = []
  · simp -implicitDefEqProofs [rc_sheet_copied, rr_sheet_copied, isa, e1, e2]
    refine CallND.of cloneI_pc0 (by simp) ?_
    simp -implicitDefEqProofs []
    refine CallND.of cloneD_pc0 (by simp) ?_
    simp -implicitDefEqProofs []
    refine ⟨rfl, ?_⟩
    simp -implicitDefEqProofs [FinO, frzSt, cpK, frz_rowI, frz_rowD, frzA, frz, AV.keys, owV, owO]
  · simp -implicitDefEqProofs [rc_sheet_copied, rr_sheet_copied, isa, e1]
    refine CallND.of cloneI_pc0 (by simp) ?_
    simp -implicitDefEqProofs []
    refine CallND.new (cloneD_pn _ e2 h2) (by simp) (by simp [lk, St.get]) ?_
    simp -implicitDefEqProofs []
    refine ⟨rfl, ?_⟩
    simp -implicitDefEqProofs [FinO, frzSt, cpK, frz_rowI, frz_rowD, frzA, frz, AV.keys, owV, owO, e2]
  · simp -implicitDefEqProofs [rc_sheet_copied, rr_sheet_copied, isa, e2]
    refine CallND.new (cloneI_pn _ e1 h1) (by simp) (by simp [lk, St.get]) ?_
    simp -implicitDefEqProofs []
    refine CallND.of cloneD_pc0 (by simp) ?_
    simp -implicitDefEqProofs []
    refine ⟨rfl, ?_⟩
    simp -implicitDefEqProofs [FinO, frzSt, cpK, frz_rowI, frz_rowD, frzA, frz, AV.keys, owV, owO, e1]
  · simp -implicitDefEqProofs [rc_sheet_copied, rr_sheet_copied, isa]
    refine CallND.new (cloneI_pn _ e1 h1) (by simp) (by simp [lk, St.get]) ?_
    simp -implicitDefEqProofs []
    refine CallND.new (cloneD_pn _ e2 h2) (by simp) (by simp [lk, St.get]) ?_
    simp -implicitDefEqProofs []
    refine ⟨rfl, ?_⟩
    simp -implicitDefEqProofs [FinO, frzSt, cpK, frz_rowI, frz_rowD, frzA, frz, AV.keys, owV, owO, e1, e2]
end
end Go.Proofs.YtdpmioiamcgfkaaDoor
