/-
  The law SizeNever: what it tells.
-/
import Derived.Test.YtikjooemblpnbaaDoorLg
import Derived.Test.YtikjooemblpnbaaDoorLd
import Derived.Test.YtikjooemblpnbaaDoorLf
import Derived.Test.YtikjooemblpnbaaDoorGl
namespace Go.Proofs.YtikjooemblpnbaaDoor
open Go.RowKit

theorem VR.flat {E E' : Env} {W : World} {x : AV} {v : Value} (h : VR E W x v) : x.flat = true → VR E' W x v := by
  induction h with
  | pv h => exact fun hf => .pv (h.flat hf)
  | undef v => intro h; simp [AV.flat] at h
  | ptr => intro h; simp [AV.flat] at h
  | eptr => intro h; simp [AV.flat] at h
  | osl => intro h; simp [AV.flat] at h
  | func => intro h; simp [AV.flat] at h
  | agg xs us h1 hx ih =>
    intro h
    simp only [AV.flat, List.all_eq_true, List.mem_attach, forall_const, Subtype.forall] at h
    exact .agg xs us h1 (fun i x u hi hu => ih i x u hi hu (h x (List.mem_of_getElem? hi)))
  | tup xs us h1 hx ih =>
    intro h
    simp only [AV.flat, List.all_eq_true, List.mem_attach, forall_const, Subtype.forall] at h
    exact .tup xs us h1 (fun i x u hi hu => ih i x u hi hu (h x (List.mem_of_getElem? hi)))

/-- A call, and a state that is weaker behind it. -/
theorem CallSem.weak {P : Program} {G : Nat → Option (List AV)} {st st1 : St} {f : FuncId} {args ys : List AV} {v : AV} (h : PC P G f ys v) (hf : v.flat = true) (hs : snapL (snap st) args = some ys) (hw : Weak st st1) : CallSem P G st f args v st1 := by
  intro R a W κ vs hG hk ha
  subst hG
  obtain ⟨he, hc⟩ := call_sim hk (.inr ⟨hf, ys, hs, h⟩) ha
  refine ⟨he, hc.mono ?_⟩
  rintro e W' ⟨u, rfl, hE, hk', hv⟩
  obtain ⟨κ1, h1⟩ := hw _ _ _ ⟨κ, hk'⟩
  exact ⟨u, κ1, rfl, h1, hv.flat hf⟩

/-- A function that takes no row as an empty one. -/
theorem PC_nils {P : Program} {G : Nat → Option (List AV)} {f : FuncId} {x v : AV} (h : PC P G f [x, .vsl []] v) : PC P G f [x, .nils] v := by
  refine ⟨h.1, fun M W vs hM hG hs hv => h.2 M W vs hM hG hs fun i y u hi hu => ?_⟩
  match i, hi with
  | 0, hi => exact hv 0 y u hi hu
  | 1, hi =>
    cases hi
    have := hv 1 .nils u rfl hu
    cases this
    exact .vsl [] none 0 1 0 0 (fun _ _ => undef) (Nat.le_refl _) (Nat.zero_le _) (fun h => absurd rfl h) (fun _ => ⟨rfl, rfl⟩) (by simp) (by simp) (by simp)

/-- A size drawn again, one unit more. -/
theorem redr_snoc (k : Int) (l : List Int) : ∀ d : Dm, redr d (l ++ [k]) = (redr d l).bind fun x => if agnOk x (stp k) = true then some (agn x (stp k)) else none := by
  induction l with
  | nil => intro d; simp only [List.nil_append, redr]; rfl
  | cons a l ih =>
    intro d
    simp only [List.cons_append, redr]
    by_cases h : agnOk d (stp a) = true
    · rw [if_pos h, if_pos h, ih]
    · rw [if_neg h, if_neg h]; rfl
theorem redr_none (l r : List Int) : ∀ d : Dm, redr d l = none → redr d (l ++ r) = none := by
  induction l with
  | nil => intro d h; cases h
  | cons a l ih =>
    intro d h
    simp only [List.cons_append, redr] at h ⊢
    by_cases c : agnOk d (stp a) = true
    · rw [if_pos c] at h ⊢; exact ih _ h
    · rw [if_neg c]

def unitsV (l : List Int) : List Int := l.map stepK
def sumV (l : List Int) : Int := (l.map fun b => stp (stepK b)).sum
theorem unitsV_snoc (l : List Int) (b : Int) : unitsV (l ++ [b]) = unitsV l ++ [stepK b] := by simp [unitsV]
theorem sumV_snoc (l : List Int) (b : Int) : sumV (l ++ [b]) = sumV l + stp (stepK b) := by simp [sumV]
theorem unitsV_any (l r : List Int) (h : ∀ k ∈ r, k ∈ unitsV l) : ((unitsV l ++ r).any fun k => decide (stp k = 0)) = false := by
  have hk : ∀ k ∈ unitsV l, stp k ≠ 0 := fun k hk => by
    simp only [unitsV, List.mem_map] at hk
    obtain ⟨b, -, rfl⟩ := hk
    have := stp_stepK b; omega
  rw [List.any_eq_false]
  intro k hm
  rcases List.mem_append.1 hm with hm | hm
  · simpa using hk k hm
  · simpa using hk k (h k hm)
theorem redraw_units (d : Dm) (l r : List Int) (hv : vd d = true) (hl : l.length + r.length ≤ 20) (h : ∀ k ∈ r, k ∈ unitsV l) : redraw d (unitsV l ++ r) = match redr d (unitsV l ++ r) with
    | some x => (x, 0)
    | none => (Dm.zero, 6) := by
  have h1 : ¬ 20 < (unitsV l ++ r).length := by simp [unitsV]; omega
  simp only [redraw, hv, if_true, h1, if_false, unitsV_any l r h, Bool.false_eq_true]
  cases redr d (unitsV l ++ r) <;> rfl

theorem exactV_bit (d : Dm) (hv : vd d = true) (k : Int) (hk : k = 1 ∨ k = 2) : (IntKind.u8.wrap (((exactV d % 2 ^ IntKind.u8.bits).toNat &&& (k % 2 ^ IntKind.u8.bits).toNat : Nat) : Int) = k) = (exa d (stp k) = true) := by
  have e : exactV d = (if exa d 100 = true then 1 else 0) + (if exa d 254 = true then 2 else 0) := by simp [exactV, hv]
  rw [e]
  rcases hk with rfl | rfl <;> simp only [stp, if_true, Int.reduceEq, if_false] <;> cases exa d 100 <;> cases exa d 254 <;> simp <;> decide

/-- The loop's state. -/
def nvS (l : List Int) (d : Dm) (p : Nat × Dm) : St := match p.1 with
  | 0 => ⟨[(44, .int .i64 0), (43, .int .i64 l.length), (42, .vsl (u8s l)), (8, .ptr 8 0), (7, .int .i64 0), (6, .nils), (5, .bool true), (4, .bool false), (2, .ptr 2 0)],
      [(2, .box [.int .i64 d.n, .int .i64 d.l, .int .i64 d.u]), (8, .box [.int .i64 p.2.n, .int .i64 p.2.l, .int .i64 p.2.u])]⟩
  | i + 1 => ⟨[(44, .int .i64 ((i + 1 : Nat) : Int)), (43, .int .i64 l.length), (42, .vsl (u8s l)), (8, .ptr 8 0), (7, .int .i64 (sumV (l.take (i + 1)))), (6, .osl 57 (i + 1)), (5, .bool true), (4, .bool false), (2, .ptr 2 0)],
      [(2, .box [.int .i64 d.n, .int .i64 d.l, .int .i64 d.u]), (8, .box [.int .i64 p.2.n, .int .i64 p.2.l, .int .i64 p.2.u]), (57, .row 1 (u8s (unitsV (l.take (i + 1)))))]⟩

/-- The state behind the next unit. -/
def nvT (l : List Int) (d x : Dm) (j : Nat) (K s sm : Int) (us : List Int) : St :=
  ⟨[(12, .int .i64 s), (11, .int .u8 K), (9, .int .i64 j), (44, .int .i64 j), (43, .int .i64 l.length), (42, .vsl (u8s l)), (8, .ptr 8 0), (7, .int .i64 sm), (6, .osl 57 (j + 1)), (5, .bool true), (4, .bool false), (2, .ptr 2 0)],
    [(2, .box [.int .i64 d.n, .int .i64 d.l, .int .i64 d.u]), (8, .box [.int .i64 x.n, .int .i64 x.l, .int .i64 x.u]), (57, .row 1 (u8s us))]⟩
theorem u8s_len (l : List Int) : (u8s l).length = l.length := by simp [u8s]
theorem u8s_get (l : List Int) (i : Nat) (h : i < (u8s l).length) : (u8s l)[i] = [.int .u8 (l[i]'(by rw [← u8s_len]; exact h))] := by simp [u8s]
theorem u8s_app (l r : List Int) : u8s l ++ u8s r = u8s (l ++ r) := by simp [u8s]
theorem u8s_snoc (l : List Int) (k : Int) : u8s l ++ [[.int .u8 k]] = u8s (l ++ [k]) := by simp [u8s]
theorem u8s_take (l : List Int) (m : Nat) : (u8s l).take m = u8s (l.take m) := by simp [u8s]
theorem u8s_flat (l : List Int) (f : List AV → List Nat) (h : ∀ n, f [.int .u8 n] = []) : (u8s l).flatMap f = [] := by
  induction l with
  | nil => rfl
  | cons d l ih => unfold u8s at ih ⊢; rw [List.map_cons, List.flatMap_cons, h, ih]; rfl
theorem u8s_flat' (l : List Int) (f : List AV → List Nat) (h : ∀ n, f [.int .u8 n] = []) : (l.map fun n => [AV.int .u8 n]).flatMap f = [] := u8s_flat l f h
theorem u8s_flat2 (l : List Int) (m : Nat) (f : List AV → List Nat) (h : ∀ n, f [.int .u8 n] = []) : ((l.map fun n => [AV.int .u8 n]).take m).flatMap f = [] := by rw [← List.map_take]; exact u8s_flat _ f h
theorem sumV_bd (l : List Int) : 0 ≤ sumV l ∧ sumV l ≤ 254 * l.length := by
  induction l with
  | nil => simp [sumV]
  | cons b l ih =>
    have h := stp_stepK b
    simp only [sumV, List.map_cons, List.sum_cons, List.length_cons] at ih ⊢
    omega

section
variable {G : Nat → Option (List AV)}

set_option maxHeartbeats 2000000 in
set_option maxRecDepth 8000 in
theorem sizeNever_pc (hg : Gs G) (d : Dm) (l : List Int) (hb : ∀ (j : Nat) (h : j < l.length), 0 ≤ l[j] ∧ l[j] ≤ 255) :
    PC Tryd.prog G 7 [.agg [.int .i64 d.n, .int .i64 d.l, .int .i64 d.u], .vsl (u8s l)] (.bool true) := by
  have hU := hg.1
  (refine pc_law01_SizeNeverO (Nat.le_of_ble_eq_true rfl) fun R hG => GO_AR mixed 1000 ?_; subst hG)
  simp -implicitDefEqProofs [rc_law01_SizeNeverO, rr_law01_SizeNeverO]
  (first | refine CallK.of (alive_pc hg) (by simp) ?_ | refine CallD.of (alive_pc hg) (by simp) ?_)
  simp -implicitDefEqProofs
  (first | refine CallK.of (dim_pc d.n d.l d.u) (by simp) ?_ | refine CallD.of (dim_pc d.n d.l d.u) (by simp) ?_)
  cases h1 : vd d
  · have h1' : vd ⟨d.n, d.l, d.u⟩ = false := h1
    simp -implicitDefEqProofs [h1']
  have h1' : vd ⟨d.n, d.l, d.u⟩ = true := h1
  obtain ⟨x0, x1, x2, x3, x4⟩ := of_decide_eq_true h1
  by_cases z1 : 20 < l.length
  · have z1' : (20 : Int) < l.length := by omega
    simp -implicitDefEqProofs [h1', z1', u8s_len]
  have z1' : ¬ (20 : Int) < l.length := by omega
  simp -implicitDefEqProofs [h1', z1', u8s_len]
  refine ⟨rfl, ?_⟩
  refine AR_loop (nvS l d) (fun p => p.1 ≤ l.length ∧ redr d (unitsV (l.take p.1)) = some p.2 ∧ vd p.2 = true ∧ d.l ≤ p.2.l ∧ p.2.u ≤ d.u ∧ p.2.l - d.l ≤ sumV (l.take p.1) - p.1 ∧ d.u - p.2.u ≤ sumV (l.take p.1) - p.1) (fun p => l.length - p.1) (0, d) (Weak.sub (by simp [nvS, lk, keptA, AV.keys]) (by simp [nvS, lk, keptO, keptA, AV.keys])) ⟨by omega, rfl, h1, by simp, by simp, by simp [sumV], by simp [sumV]⟩ ?_
  rintro ⟨i, x⟩ ⟨hi, hr, hv, b1, b2, b3, b4⟩
  simp only at hi hr hv b1 b2 b3 b4
  by_cases h2 : i < l.length
  · obtain ⟨y0, y1⟩ := hb i h2
    have hT : l.take (i + 1) = l.take i ++ [l[i]] := List.take_succ_eq_append_getElem h2
    have hU1 : unitsV (l.take (i + 1)) = unitsV (l.take i) ++ [stepK l[i]] := by rw [hT, unitsV_snoc]
    have hS1 : sumV (l.take (i + 1)) = sumV (l.take i) + stp (stepK l[i]) := by rw [hT, sumV_snoc]
    have hSb := sumV_bd (l.take i)
    have hlen : (l.take i).length = i := by rw [List.length_take, Nat.min_eq_left (Nat.le_of_lt h2)]
    have hlen1 : (l.take (i + 1)).length = i + 1 := by rw [List.length_take, Nat.min_eq_left h2]
    have hk := stepK_cases l[i]
    have hs := stp_stepK l[i]
    have hn : IntKind.i64.wrap (sumV (l.take i) + stp (stepK l[i])) = sumV (l.take (i + 1)) := by rw [hS1]; exact wrapI (by omega) (by omega)
    have hbd : i + 1 ≤ 70368744177664 := by omega
    have hul : (unitsV (l.take i)).length = i := by rw [unitsV, List.length_map, hlen]
    have hR : redr d (unitsV (l.take (i + 1))) = if agnOk x (stp (stepK l[i])) = true then some (agn x (stp (stepK l[i]))) else none := by rw [hU1, redr_snoc, hr]; rfl
    have hD0 := redraw_units d (l.take (i + 1)) [] h1 (by rw [hlen1]; simp; omega) (by simp)
    have hD1 : ∀ m, m ≤ i → m + (i + 1) ≤ 20 → redr d (unitsV (l.take (i + 1))) = none → redraw d (unitsV (l.take (i + 1)) ++ (unitsV (l.take (i + 1))).take m) = (Dm.zero, 6) := fun m m0 m1 e => by
      rw [redraw_units d (l.take (i + 1)) _ h1 (by rw [hlen1, List.length_take]; omega) (fun k hk => List.mem_of_mem_take hk), redr_none _ _ d e]
    rw [List.append_nil] at hD0
    have hul1 : (unitsV (l.take (i + 1))).length = i + 1 := by rw [unitsV, List.length_map, hlen1]
    have hur : ∀ k ∈ unitsV (l.take (i + 1)), k = 1 ∨ k = 2 := fun k hk => by
      simp only [unitsV, List.mem_map] at hk
      obtain ⟨b, -, rfl⟩ := hk
      exact stepK_cases b
    obtain ⟨K, hK⟩ : ∃ K, K = stepK l[i] := ⟨_, rfl⟩
    obtain ⟨us, hus⟩ : ∃ us, us = unitsV (l.take (i + 1)) := ⟨_, rfl⟩
    obtain ⟨sm, hsm⟩ : ∃ sm, sm = sumV (l.take (i + 1)) := ⟨_, rfl⟩
    obtain ⟨j, hj⟩ : ∃ j, j = i := ⟨_, rfl⟩
    have hnext : ∀ st x', Weak st (nvS l d (j + 1, x')) → redr d us = some x' → vd x' = true → d.l ≤ x'.l → x'.u ≤ d.u → x'.l - d.l ≤ sm - (j + 1) → d.u - x'.u ≤ sm - (j + 1) →
        ∃ p : Nat × Dm, Weak st (nvS l d p) ∧ (p.1 ≤ l.length ∧ redr d (unitsV (l.take p.1)) = some p.2 ∧ vd p.2 = true ∧ d.l ≤ p.2.l ∧ p.2.u ≤ d.u ∧ p.2.l - d.l ≤ sumV (l.take p.1) - p.1 ∧ d.u - p.2.u ≤ sumV (l.take p.1) - p.1) ∧ l.length - p.1 < l.length - i := fun st x' hw a1 a2 a3 a4 a5 a6 =>
      ⟨(j + 1, x'), hw, ⟨by subst hj; exact h2, by subst hj; rw [← hus]; exact a1, a2, a3, a4, by subst hj; show x'.l - d.l ≤ sumV (l.take (j + 1)) - ((j + 1 : Nat) : Int); rw [← hsm]; omega, by subst hj; show d.u - x'.u ≤ sumV (l.take (j + 1)) - ((j + 1 : Nat) : Int); rw [← hsm]; omega⟩, by subst hj; show l.length - (j + 1) < l.length - j; omega⟩
    have hjl : j < l.length := by omega
    have hrest : us.length = j + 1 ∧ redr d us = (if agnOk x (stp K) = true then some (agn x (stp K)) else none) ∧ redraw d us = (match redr d us with | some x => (x, 0) | none => (Dm.zero, 6)) ∧
        (∀ m, m ≤ j → m + (j + 1) ≤ 20 → redr d us = none → redraw d (us ++ us.take m) = (Dm.zero, 6)) ∧ (∀ k ∈ us, k = 1 ∨ k = 2) ∧ (K = 1 ∨ K = 2) ∧ (stp K = 100 ∨ stp K = 254) ∧ sm = sumV (l.take j) + stp K ∧ x.l - d.l ≤ sumV (l.take j) - j ∧ d.u - x.u ≤ sumV (l.take j) - j ∧ 0 ≤ sumV (l.take j) ∧ sumV (l.take j) ≤ 5080 ∧ unitsV (l.take (j + 1)) = us ∧ sumV (l.take (j + 1)) = sm := by
      subst hj
      rw [hK, hus, hsm]
      exact ⟨hul1, hR, hD0, hD1, hur, hk, hs, hS1, b3, b4, hSb.1, by omega, rfl, rfl⟩
    obtain ⟨e1, e2, e3, e4, e5, e6, e7, e8, e9, e10, e11, e12, e13, e14⟩ := hrest
    cases i
    case' zero =>
      have hS0 : IntKind.i64.wrap (stp (stepK l[0])) = sumV (l.take 1) := by simpa [sumV] using hn
      refine GO_AR mixed 21 ?_
      simp -implicitDefEqProofs [nvS, h2, u8s_get, u8s_len]
      (first | refine CallK.of (stepL_pc l[0] y0) (by simp) ?_ | refine CallD.of (stepL_pc l[0] y0) (by simp) ?_)
      simp -implicitDefEqProofs [hS0]
      have hw1 : us = [K] := by rw [hus, hU1, hK]; rfl
      refine AR_weak (st' := nvT l d x j K (stp K) sm us) (Weak.sub (by simp [nvT, lk, keptA, AV.keys, hK, hsm, hj]) (by simp [nvT, lk, keptO, keptA, AV.keys, hw1, hK, u8s])) ?_
      clear hur hD1 hD0 hR hul hn hS1 hU1 hT hlen hlen1 hus hsm hK hS0 hSb hul1 hw1 hr b3 b4
    case' succ i =>
      refine GO_AR mixed 21 ?_
      have k1 : (i : Int) + 1 < l.length := by omega
      have k2 : ((i : Int) + 1).toNat = i + 1 := by omega
      have k3 : (0 : Int) ≤ (i : Int) + 1 := by omega
      simp -implicitDefEqProofs [nvS, h2, u8s_get, u8s_len, k1, k2, k3]
      (first | refine CallK.of (stepL_pc l[i + 1] y0) (by simp) ?_ | refine CallD.of (stepL_pc l[i + 1] y0) (by simp) ?_)
      simp -implicitDefEqProofs [hn, u8s_len, hul, hbd]
      refine AR_weak (st' := nvT l d x j K (stp K) sm us) (Weak.sub (by simp [nvT, lk, keptA, AV.keys, hK, hsm, hj]) (by simp [nvT, lk, keptO, keptA, AV.keys, hus, hU1, u8s])) ?_
      clear hur hD1 hD0 hR hul hn hS1 hU1 hT hlen hlen1 hus hsm hK k1 k2 k3 hSb hul1 hr b3 b4
    all_goals
      refine GO_run mixed 1000 ?_
      cases ho : agnOk x (stp K)
      · have hc : conv x K = (Dm.zero, 6) := by simp [conv, hv, ho, show ¬ stp K = 0 by omega]
        have hN : redr d us = none := by rw [e2, ho]; rfl
        rw [hN] at e3
        simp -implicitDefEqProofs [nvT]
        refine CallK.sem (CallSem.weak (conv_pc hU x K (by omega) (by omega)) (by simp [AV.flat]) (by simp [snapL, snap, snapF, AV.pure]) (Weak.frz (fun k => k == 57) _)) ?_
        rw [hc]
        have p1 : (∀ r ∈ u8s us, ∀ x ∈ r, x.pure = true) = True := eq_true (by simp [u8s, AV.pure])
        simp -implicitDefEqProofs [frzSt, frzA, frzO, frz, AV.keys, u8s_len, e1, p1, Dm.zero]
        have hub : ∀ (i : Nat) (h : i < us.length), 0 ≤ us[i] ∧ us[i] ≤ 255 := fun i h => by have := e5 us[i] (List.getElem_mem h); omega
        (first | refine CallK.of (redraw_pc hU d us (by omega) hub) (by simp) ?_ | refine CallD.of (redraw_pc hU d us (by omega) hub) (by simp) ?_)
        rw [e3]
        obtain ⟨q, hq⟩ : ∃ q : Nat, q = 20 - (j + 1) := ⟨_, rfl⟩
        obtain ⟨m, hm⟩ : ∃ m : Nat, m = min j q := ⟨_, rfl⟩
        have wq : IntKind.i64.wrap (20 - ((j : Int) + 1)) = q := by rw [wrapI (by omega) (by omega)]; omega
        have wm : min (j : Int) (q : Int) = (m : Int) := by omega
        have hmj : m ≤ j + 1 := by omega
        have e4 := e4 m (by omega) (by omega) hN
        have hb1 : (j + 1) ≤ 70368744177664 := by omega
        have hne : ¬ us = [] := by rintro rfl; cases e1
        by_cases m0 : m = 0
        · simp -implicitDefEqProofs [u8s, e1, wq, wm, hmj, hb1, hne, Dm.zero, m0]
          refine CallD.flat (redraw_pc hU d us (by omega) hub) (by simp [AV.flat]) (by simp [snapL, snap, snapF, okAll, St.get, lk, u8s, AV.pure, e1]) ?_
          rw [e3]
          simp -implicitDefEqProofs [Dm.zero]
          refine ⟨by simp only [List.flatMap_append, u8s_flat', u8s_flat2, AV.keys, List.flatMap_cons, List.flatMap_nil, List.append_nil, implies_true]; rfl, ?_⟩
          refine GO_ret mixed 1000 ?_
          simp -implicitDefEqProofs
        · have hne2 : ¬ us.take m = [] := by intro e; have := congrArg List.length e; rw [List.length_take, e1] at this; simp at this; omega
          have hl2 : (us.take m).length = m := by rw [List.length_take, e1]; omega
          have hub2 : ∀ (i : Nat) (h : i < (us ++ us.take m).length), 0 ≤ (us ++ us.take m)[i] ∧ (us ++ us.take m)[i] ≤ 255 := fun i h => by
            have : (us ++ us.take m)[i] ∈ us := by
              rcases List.mem_append.1 (List.getElem_mem h) with h | h
              · exact h
              · exact List.mem_of_mem_take h
            have := e5 _ this; omega
          have hmin : min m (j + 1) = m := Nat.min_eq_left hmj
          have hb2 : j + 1 + m ≤ 70368744177664 := by omega
          simp -implicitDefEqProofs [u8s, e1, wq, wm, hmj, hb1, hne, Dm.zero, m0, hb2, hl2, hne2, ← List.map_take]
          refine CallD.flat (redraw_pc hU d (us ++ us.take m) (by rw [List.length_append, hl2, e1]; omega) hub2) (by simp [AV.flat]) (by simp [snapL, snap, snapF, okAll, St.get, lk, u8s, AV.pure, e1, hl2, hmin, ← List.map_take]) ?_
          rw [e4]
          simp -implicitDefEqProofs [Dm.zero]
          refine ⟨by simp only [List.flatMap_append, u8s_flat', u8s_flat2, AV.keys, List.flatMap_cons, List.flatMap_nil, List.append_nil, implies_true]; rfl, ?_⟩
          refine GO_ret mixed 1000 ?_
          simp -implicitDefEqProofs
      · obtain ⟨f1, f2, f3, f4, f5, f6, f7, f8, f9, f10⟩ := inside_facts (stp K) e7 x hv 0
        have hvx := agn_vd x (stp K) hv (by omega) (by omega) ho
        obtain ⟨v0, v1, v2, v3, v4⟩ := of_decide_eq_true hvx
        have hex : exa (agn x (stp K)) (stp K) = true := decide_eq_true ⟨f1, f2, f3⟩
        have hag := agn_exa (stp K) e7 (agn x (stp K)) hvx hex
        have hcx : conv (agn x (stp K)) K = (agn x (stp K), 0) := by simp [conv, hvx, show ¬ stp K = 0 by omega, hag]
        have hc : conv x K = (agn x (stp K), 0) := by simp [conv, hv, ho, show ¬ stp K = 0 by omega]
        have hN : redr d us = some (agn x (stp K)) := by rw [e2, ho]; rfl
        rw [hN] at e3
        have hbit := exactV_bit x hv K e6
        have hsame : exa x (stp K) = true → agn x (stp K) = x := fun h => (agn_exa (stp K) e7 x hv h).1
        have hck : chk x = 0 := by simp [chk, hv]
        generalize agn x (stp K) = y at *
        have hin : insideV y d = (true, 0) := by
          have : d.l ≤ y.l ∧ y.u ≤ d.u := by omega
          simp [insideV, hvx, h1, this]
        have hub : ∀ (i : Nat) (h : i < us.length), 0 ≤ us[i] ∧ us[i] ≤ 255 := fun i h => by have := e5 us[i] (List.getElem_mem h); omega
        have wl : IntKind.i64.wrap (y.l - d.l) = y.l - d.l := wrapI (by omega) (by omega)
        have wu : IntKind.i64.wrap (d.u - y.u) = d.u - y.u := wrapI (by omega) (by omega)
        have g1 : ¬ sm ≤ y.l - d.l := by omega
        have g2 : ¬ sm ≤ d.u - y.u := by omega
        have w1 : IntKind.i64.wrap ((j : Int) + 1) = (j : Int) + 1 := wrapI (by omega) (by omega)
        simp -implicitDefEqProofs [nvT]
        (first | refine CallK.of (conv_pc hU x K (by omega) (by omega)) (by simp) ?_ | refine CallD.of (conv_pc hU x K (by omega) (by omega)) (by simp) ?_)
        rw [hc]
        simp -implicitDefEqProofs []
        refine CallK.flat (redraw_pc hU d us (by omega) hub) (by simp [AV.flat]) (by simp [snapL, snap, snapF, okAll, St.get, lk, u8s, AV.pure, e1]) ?_
        rw [e3]
        simp -implicitDefEqProofs []
        (first | refine CallK.of (exactSz_pc hU x) (by simp) ?_ | refine CallD.of (exactSz_pc hU x) (by simp) ?_)
        rw [hck]
        simp -implicitDefEqProofs []
        (first | refine CallK.of (insideS_pc y d) (by simp) ?_ | refine CallD.of (insideS_pc y d) (by simp) ?_)
        rw [hin]
        simp -implicitDefEqProofs []
        (first | refine CallK.of (conv_pc hU y K (by omega) (by omega)) (by simp) ?_ | refine CallD.of (conv_pc hU y K (by omega) (by omega)) (by simp) ?_)
        rw [hcx]
        by_cases hx : exa x (stp K) = true
        · obtain rfl := hsame hx
          have hb1 := hbit.mpr hx
          simp -implicitDefEqProofs [hb1, wl, wu, g1, g2, w1]
          exact hnext _ y (Weak.sub (by simp [lk, keptA, AV.keys, e13, e14]) (by simp [lk, keptO, keptA, AV.keys, e13, u8s])) hN hvx (by omega) (by omega) (by omega) (by omega)
        · have hb1 : ¬ _ := fun h => hx (hbit.mp h)
          simp -implicitDefEqProofs [hb1, wl, wu, g1, g2, w1]
          exact hnext _ y (Weak.sub (by simp [lk, keptA, AV.keys, e13, e14]) (by simp [lk, keptO, keptA, AV.keys, e13, u8s])) hN hvx (by omega) (by omega) (by omega) (by omega)
  · obtain rfl : i = l.length := by omega
    rw [List.take_length] at hr
    have hD0 := redraw_units d l [] h1 (by simp; omega) (by simp)
    rw [List.append_nil, hr] at hD0
    have hul : (unitsV l).length = l.length := by simp [unitsV]
    have hub : ∀ (i : Nat) (h : i < (unitsV l).length), 0 ≤ (unitsV l)[i] ∧ (unitsV l)[i] ≤ 255 := fun i h => by
      have : (unitsV l)[i] ∈ unitsV l := List.getElem_mem h
      generalize (unitsV l)[i] = k at *
      simp only [unitsV, List.mem_map] at this
      obtain ⟨b, -, rfl⟩ := this
      have := stepK_cases b
      omega
    cases e : l.length with
    | zero =>
      obtain rfl : l = [] := List.length_eq_zero_iff.1 e
      refine GO_AR mixed 1000 ?_
      simp -implicitDefEqProofs [nvS]
      refine GO_ret mixed 1000 ?_
      simp -implicitDefEqProofs []
      (first | refine CallK.of (PC_nils (redraw_pc hU d [] (by simp) (by simp))) (by simp) ?_ | refine CallD.of (PC_nils (redraw_pc hU d [] (by simp) (by simp))) (by simp) ?_)
      rw [show redraw d [] = (x, 0) from hD0]
      simp -implicitDefEqProofs []
    | succ k =>
      have hs : nvS l d (k + 1, x) = ⟨[(44, .int .i64 l.length), (43, .int .i64 l.length), (42, .vsl (u8s l)), (8, .ptr 8 0), (7, .int .i64 (sumV l)), (6, .osl 57 l.length), (5, .bool true), (4, .bool false), (2, .ptr 2 0)],
      [(2, .box [.int .i64 d.n, .int .i64 d.l, .int .i64 d.u]), (8, .box [.int .i64 x.n, .int .i64 x.l, .int .i64 x.u]), (57, .row 1 (u8s (unitsV l)))]⟩ := by
        simp only [nvS]; rw [← e, List.take_length]
      rw [hs]
      refine GO_AR mixed 1000 ?_
      simp -implicitDefEqProofs []
      refine GO_ret mixed 1000 ?_
      simp -implicitDefEqProofs []
      refine CallK.flat (redraw_pc hU d (unitsV l) (by omega) hub) (by simp [AV.flat]) (by simp [snapL, snap, snapF, okAll, St.get, lk, u8s, AV.pure, hul]) ?_
      rw [hD0]
      simp -implicitDefEqProofs []
end

theorem u8s_inv {rows : List (List AV)} (hr : ∀ r ∈ rows, TVs [.int .u8] r) : ∃ l : List Int, rows = u8s l ∧ ∀ (j : Nat) (h : j < l.length), 0 ≤ l[j] ∧ l[j] ≤ 255 := by
  have one : ∀ r, TVs [.int .u8] r → ∃ n : Int, r = [AV.int .u8 n] ∧ 0 ≤ n ∧ n ≤ 255 := fun r h => by
    obtain ⟨x0, _, rfl, h0, h⟩ := h.cons_inv
    obtain rfl := h.nil_inv
    obtain ⟨n, rfl, hb⟩ := h0.int_inv
    exact ⟨n, rfl, bounds_u8 hb⟩
  obtain ⟨l, rfl⟩ := rows_map (f := fun n : Int => [AV.int .u8 n]) fun r h => (one r (hr r h)).imp fun _ e => e.1
  refine ⟨l, rfl, fun j h => ?_⟩
  obtain ⟨n, e, b⟩ := one [AV.int .u8 l[j]] (hr _ (List.mem_map.2 ⟨l[j], List.getElem_mem h, rfl⟩))
  cases e
  exact b
end Go.Proofs.YtikjooemblpnbaaDoor
