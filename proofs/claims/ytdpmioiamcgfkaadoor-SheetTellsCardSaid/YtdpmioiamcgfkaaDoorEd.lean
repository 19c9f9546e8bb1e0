/-
  What the iterator over a drawing's issues yields: the walk.
-/
import Derived.Test.YtdpmioiamcgfkaaDoorEc
namespace Go.Proofs.YtdpmioiamcgfkaaDoor
open Go.RowKit

/-- A call of what a range over a function hands its iterator. -/
theorem yield_sim {P : Program} {R : Run} {st : St} {a : Act} {W : World} {κ : Nat → Option (Nat × Nat)} {rd : Option Nat} {m : Nat} {ops : Array Oper} {r : ROper} {j l : Nat} {o : Oper} {f y : RA} {K : Act → World → Prop} {Q : Exit → Act → World → Prop}
    (hr : r.op = .callv f [y]) (hf : evA R.G st f = .func (.yield l) [] []) (hw : wants st r.guard = some true) (ho : ops[j]? = some o) (hk : okOper P R.N ops o r = true) (hκ : SK R st a W κ)
    (hc : ∀ u, VR (st.env R.M κ) W (evA R.G st y) u → YieldAt (FW rd) (m - 1) P l #[u] W fun
      | .returned v, W' => K (a.put o.dst v) W'
      | .panicked ch, W' => Q (.panic ch) a W'
      | .outgrown, _ => LetsOut Q) : wpOpIn (FW rd) m P ops Q j K a W := by
  simp only [okOper, Bool.and_eq_true, decide_eq_true_eq] at hk
  obtain ⟨⟨⟨hd, hdn⟩, hop⟩, hg⟩ := hk
  unfold wpOpIn
  simp only [ho]
  rw [if_pos (wants_sim hκ hg hw)]
  rw [hr] at hop
  simp only [isCall, if_true, okCall] at hop
  split at hop <;> try (simp at hop; done)
  · simp_all
  · simp_all
  · rename_i r0 x xs ats y' ys e1 e2
    simp only [Bool.and_eq_true] at hop
    simp only [ROp.callv.injEq] at e2
    obtain ⟨rfl, rfl⟩ := e2
    have hx := hκ.ev hop.1
    rw [hf] at hx
    obtain ⟨us, vs, hv1, hv2, hv3⟩ := hx.func_inv
    obtain rfl : us = #[] := by
      have := hv2.1
      rw [← Array.toList_inj]
      exact List.length_eq_zero_iff.1 (by simpa using this)
    obtain rfl : vs = #[] := by
      have := hv3.1
      rw [← Array.toList_inj]
      exact List.length_eq_zero_iff.1 (by simpa using this)
    cases xs with
    | nil => simp [allB2] at hop
    | cons z xs =>
      cases xs with
      | cons _ _ => simp [allB2] at hop
      | nil =>
        have hz := hκ.ev (show okA z y = true by simpa [allB2] using hop.2)
        obtain ⟨fn, tmps, assign, body, h1, h2⟩ := hc _ hz
        refine ⟨fun _ _ => trivial, ?_⟩
        rw [Oper.semAt_eq _ _ _ (fun c e => by rw [e1] at e; cases e)]
        have : (execOp a.eval o).run P W = .ok (.round l fn tmps assign body) W := by
          rw [← h1]
          simp [execOp, e1, resolve, hv1, Deferred.ofValue, invoke, Sem.run_bind]
        rw [this]
        exact ⟨FW_depth, h2⟩

/-- The issues of a drawing, as trees. -/
def elsOf (r : List Iss) (n : Int) : List AV := (r.filter (fun x => decide (x.d = n))).map (fun x => .agg (isa x))

theorem seg_all {n : Int} : ∀ (l : List Iss), (l.map (·.d)).Pairwise (· ≤ ·) → (∀ x ∈ l, n ≤ x.d) →
    (l.filter (fun x => decide (x.d = n))).length ≤ l.length ∧ (∀ i, i < (l.filter (fun x => decide (x.d = n))).length → (l.filter (fun x => decide (x.d = n)))[i]? = l[i]? ∧ ∀ x, l[i]? = some x → x.d = n) ∧
      ∀ x, l[(l.filter (fun x => decide (x.d = n))).length]? = some x → x.d ≠ n
  | [], _, _ => by simp
  | y :: l, hs, hg => by
    simp only [List.map_cons, List.pairwise_cons] at hs
    obtain ⟨h1, h2, h3⟩ := seg_all l hs.2 fun x hx => hg x (List.mem_cons_of_mem _ hx)
    by_cases hy : y.d = n
    · have e : (y :: l).filter (fun x => decide (x.d = n)) = y :: l.filter (fun x => decide (x.d = n)) := by simp [hy]
      rw [e]
      refine ⟨by simpa using h1, fun i hi => ?_, fun x hx => h3 x (by simpa using hx)⟩
      cases i with
      | zero => exact ⟨rfl, fun x hx => by simp at hx; subst hx; exact hy⟩
      | succ i => exact ⟨by simpa using (h2 i (by simpa using hi)).1, fun x hx => (h2 i (by simpa using hi)).2 x (by simpa using hx)⟩
    · have gt : n < y.d := by have := hg y (List.mem_cons_self ..); omega
      have e : (y :: l).filter (fun x => decide (x.d = n)) = [] := by
        rw [List.filter_eq_nil_iff]
        intro x hx
        rcases List.mem_cons.1 hx with rfl | hx
        · simpa using hy
        · have := hs.1 x.d (List.mem_map.2 ⟨x, hx, rfl⟩)
          simp; omega
      rw [e]
      refine ⟨by simp, by simp, fun x hx => ?_⟩
      simp at hx; subst hx; exact hy
theorem seg_of {r : List Iss} {n : Int} (hs : (r.map (·.d)).Pairwise (· ≤ ·)) : ∃ cnt, cnt = (r.filter (fun x => decide (x.d = n))).length ∧ cnt ≤ (r.drop (lowB (r.map (·.d)) n)).length ∧
    (∀ i, i < cnt → (r.filter (fun x => decide (x.d = n)))[i]? = (r.drop (lowB (r.map (·.d)) n))[i]? ∧ ∀ x, (r.drop (lowB (r.map (·.d)) n))[i]? = some x → x.d = n) ∧ (∀ x, (r.drop (lowB (r.map (·.d)) n))[cnt]? = some x → x.d ≠ n) := by
  have e : r.filter (fun x => decide (x.d = n)) = (r.drop (lowB (r.map (·.d)) n)).filter (fun x => decide (x.d = n)) := by
    conv => lhs; rw [← List.take_append_drop (lowB (r.map (·.d)) n) r]
    rw [List.filter_append]
    have : (r.take (lowB (r.map (·.d)) n)).filter (fun x => decide (x.d = n)) = [] := by
      rw [List.filter_eq_nil_iff]
      intro x hx
      obtain ⟨i, hi, rfl⟩ := List.getElem_of_mem hx
      simp only [List.length_take] at hi
      have := (lowB_at hs n i (by simp; omega)).1 (by omega)
      simp only [List.getElem_map] at this
      simp only [List.getElem_take]
      simp; omega
    rw [this, List.nil_append]
  refine ⟨_, rfl, ?_⟩
  rw [e]
  refine seg_all _ ?_ fun x hx => ?_
  · rw [List.map_drop]; exact hs.sublist (List.drop_sublist _ _)
  · obtain ⟨i, hi, rfl⟩ := List.getElem_of_mem hx
    simp only [List.length_drop] at hi
    have q := lowB_at hs n (lowB (r.map (·.d)) n + i) (by simp; omega)
    simp only [List.getElem_map] at q
    simp only [List.getElem_drop]
    by_cases h : r[lowB (r.map (·.d)) n + i].d < n
    · have := q.2 h; omega
    · omega

section
variable {G : Nat → Option (List AV)}
theorem compare_pc (a b : Int) : PC Tryd.prog G 125 [.int .i64 a, .int .i64 b] (.int .i64 (if a < b then -1 else if b < a then 1 else 0)) := by
  (refine pc_cmp_Compare_int (Nat.le_of_ble_eq_true rfl) fun R hG hrd => GO_AR mixed 1000 ?_; subst hG)
  by_cases h1 : a < b
  · simp -implicitDefEqProofs [rc_cmp_Compare_int, rr_cmp_Compare_int]
    (first | refine CallK.of (isNaNc_pc a) (by simp) ?_ | refine CallD.of (isNaNc_pc a) (by simp) ?_)
    simp -implicitDefEqProofs []
    (first | refine CallK.of (isNaNc_pc b) (by simp) ?_ | refine CallD.of (isNaNc_pc b) (by simp) ?_)
    simp -implicitDefEqProofs [h1]
  · by_cases h2 : b < a
    · simp -implicitDefEqProofs [rc_cmp_Compare_int, rr_cmp_Compare_int]
      (first | refine CallK.of (isNaNc_pc a) (by simp) ?_ | refine CallD.of (isNaNc_pc a) (by simp) ?_)
      simp -implicitDefEqProofs []
      (first | refine CallK.of (isNaNc_pc b) (by simp) ?_ | refine CallD.of (isNaNc_pc b) (by simp) ?_)
      simp -implicitDefEqProofs [h1, h2]
    · simp -implicitDefEqProofs [rc_cmp_Compare_int, rr_cmp_Compare_int]
      (first | refine CallK.of (isNaNc_pc a) (by simp) ?_ | refine CallD.of (isNaNc_pc a) (by simp) ?_)
      simp -implicitDefEqProofs []
      (first | refine CallK.of (isNaNc_pc b) (by simp) ?_ | refine CallD.of (isNaNc_pc b) (by simp) ?_)
      simp -implicitDefEqProofs [h1, h2]
theorem issC_pc (x : Iss) (n : Int) : PC Tryd.prog G 124 [.agg (isa x), .int .i64 n] (.int .i64 (if x.d < n then -1 else if n < x.d then 1 else 0)) := by
  (refine pc_sheet_book_issues_1_1 (Nat.le_of_ble_eq_true rfl) fun R hG hrd => GO_AR mixed 1000 ?_; subst hG)
  simp -implicitDefEqProofs [rc_sheet_book_issues_1_1, rr_sheet_book_issues_1_1, isa]
  (first | refine CallK.of (compare_pc _ _) (by simp) ?_ | refine CallD.of (compare_pc _ _) (by simp) ?_)
  simp -implicitDefEqProofs []

theorem bsearchF_pc (r : List Iss) (n : Int) (hs : (r.map (·.d)).Pairwise (· ≤ ·)) (hl : Sml r) : ∃ b, PC Tryd.prog G 123 [.vsl (r.map isa), .int .i64 n, .func (.func 124) [] []] (.tup [.int .i64 (lowB (r.map (·.d)) n), .bool b]) := by
  have hle := lowB_le (r.map (·.d)) n
  simp only [List.length_map] at hle
  refine ⟨if h : lowB (r.map (·.d)) n < r.length then decide ((if r[lowB (r.map (·.d)) n].d < n then (-1 : Int) else if n < r[lowB (r.map (·.d)) n].d then 1 else 0) = 0) else false, ?_⟩
  (refine pc_slices_BinarySearchFunc_api_Issue_api_Issue_int (Nat.le_of_ble_eq_true rfl) fun R hG hrd => GO_AR mixed 1000 ?_; subst hG)
  unfold Sml at hl
  simp -implicitDefEqProofs [rc_slices_BinarySearchFunc_api_Issue_api_Issue_int, rr_slices_BinarySearchFunc_api_Issue_api_Issue_int]
  refine AR_loop (fun p : Nat × Nat => ⟨[(10, .int .i64 p.2), (9, .int .i64 p.1), (8, .int .i64 r.length), (0, .vsl (r.map isa)), (1, .int .i64 n), (2, .func (.func 124) [] [])], []⟩) (fun p => p.1 ≤ lowB (r.map (·.d)) n ∧ lowB (r.map (·.d)) n ≤ p.2 ∧ p.2 ≤ r.length) (fun p => p.2 - p.1) (0, r.length) (by (first | exact Weak.tm (by simp [lk]) | exact Weak.sub (by simp [lk, keptA, AV.keys]) (by simp [lk, keptO, keptA, AV.keys]))) ⟨by omega, hle, Nat.le_refl _⟩ ?_
  rintro ⟨lo, hi⟩ ⟨h1, h2, h3⟩
  simp only at h1 h2 h3
  refine GO_AR mixed 1000 ?_
  by_cases h4 : lo < hi
  · obtain ⟨m, hm⟩ : ∃ m, m = (lo + hi) / 2 := ⟨_, rfl⟩
    have hw := half_wrap (i := lo) (j := hi) (by omega)
    rw [← hm] at hw
    have m1 : m < r.length := by omega
    have w1 : IntKind.i64.wrap ((m : Int) + 1) = ((m + 1 : Nat) : Int) := wrapI (by omega) (by omega)
    have hb := lowB_at hs n m (by simpa using m1)
    simp only [List.getElem_map] at hb
    by_cases h5 : r[m].d < n
    · have c1 : (-1 : Int) < 0 := by omega
      simp -implicitDefEqProofs [h4, hw, m1, isa]
      (first | refine CallK.of (issC_pc r[m] n) (by simp) ?_ | refine CallD.of (issC_pc r[m] n) (by simp) ?_)
      simp -implicitDefEqProofs [h5, w1]
      exact ⟨(m + 1, hi), (by (first | exact Weak.tm (by simp [lk]) | exact Weak.sub (by simp [lk, keptA, AV.keys]) (by simp [lk, keptO, keptA, AV.keys]))), ⟨by have := hb.2 h5; show m + 1 ≤ _; omega, h2, h3⟩, by show hi - (m + 1) < hi - lo; omega⟩
    · simp -implicitDefEqProofs [h4, hw, m1, isa]
      (first | refine CallK.of (issC_pc r[m] n) (by simp) ?_ | refine CallD.of (issC_pc r[m] n) (by simp) ?_)
      by_cases h6 : n < r[m].d
      · simp -implicitDefEqProofs [h5, h6]
        exact ⟨(lo, m), (by (first | exact Weak.tm (by simp [lk]) | exact Weak.sub (by simp [lk, keptA, AV.keys]) (by simp [lk, keptO, keptA, AV.keys]))), ⟨h1, by have : ¬ m < lowB (r.map (·.d)) n := fun h => h5 (hb.1 h); show _ ≤ m; omega, by show m ≤ _; omega⟩, by show m - lo < hi - lo; omega⟩
      · simp -implicitDefEqProofs [h5, h6]
        exact ⟨(lo, m), (by (first | exact Weak.tm (by simp [lk]) | exact Weak.sub (by simp [lk, keptA, AV.keys]) (by simp [lk, keptO, keptA, AV.keys]))), ⟨h1, by have : ¬ m < lowB (r.map (·.d)) n := fun h => h5 (hb.1 h); show _ ≤ m; omega, by show m ≤ _; omega⟩, by show m - lo < hi - lo; omega⟩
  · obtain rfl : lo = lowB (r.map (·.d)) n := by omega
    by_cases h5 : lowB (r.map (·.d)) n < r.length
    · simp -implicitDefEqProofs [h4]
      refine GO_ret mixed 1000 ?_
      simp -implicitDefEqProofs [h5, isa]
      (first | refine CallK.of (issC_pc r[lowB (r.map (·.d)) n] n) (by simp) ?_ | refine CallD.of (issC_pc r[lowB (r.map (·.d)) n] n) (by simp) ?_)
      simp -implicitDefEqProofs []
    · simp -implicitDefEqProofs [h4]
      refine GO_ret mixed 1000 ?_
      simp -implicitDefEqProofs [h5]


/-! The iterator's code in parts. -/
def issA : RCode → RCode
  | .seq a _ => a
  | c => c
def issRest : RCode → RCode
  | .seq _ b => b
  | c => c
def issB1 (c : RCode) : RCode := issA (issRest c)
def issB2 (c : RCode) : RCode := issRest (issRest c)
def issB3 (c : RCode) : RCode := match issB2 c with
  | .block _ b => b
  | c => c
def issL (c : RCode) : RCode := match issB3 c with
  | .loop b => b
  | c => c
def issBk : RCode → RCode
  | .block _ b => b
  | c => c
def issOps : RCode → List ROper
  | .reg _ _ l => l
  | _ => []
/-- The state of the iterator ahead of round i. -/
def itS (seg : List Iss) (bk : AV) (n : Int) (l i : Nat) : List (Nat × AV) :=
  [(26, .int .i64 i), (25, .int .i64 seg.length), (24, .vsl (seg.map isa)), (2, .vptr [.int .i64 n] 0), (1, .vptr [bk] 0), (0, .func (.yield l) [] [])]

theorem issuesIt (r : List Iss) (n : Int) (ds : AV) (hs : (r.map (·.d)).Pairwise (· ≤ ·)) (hl : Sml r) : IterP Tryd.prog 122 [.vptr [.vptr [.vsl (r.map isa), ds] 0] 0, .vptr [.int .i64 n] 0] (elsOf r n) := by
  refine ⟨by kernel_rfl, ?_⟩
  intro n' l lb J K M W hn hJe hKe hJM hC hY h0
  obtain ⟨cnt, hcnt, hc1, hc2, hc3⟩ := seg_of (n := n) hs
  generalize hseg : r.drop (lowB (r.map (·.d)) n) = seg at hc1 hc2 hc3
  have hsl : seg.length ≤ 16777216 := by rw [← hseg]; simp; unfold Sml at hl; omega
  have hle := lowB_le (r.map (·.d)) n
  simp only [List.length_map] at hle
  unfold Sml at hl
  have hel : (elsOf r n).length = cnt := by rw [hcnt]; simp [elsOf]
  obtain ⟨c, hc, hok⟩ : ∃ c, Tryd.f122.body = some c ∧ okCode Tryd.prog Tryd.f122.ntmps c rc_sheet_book_issues_1 = true := ⟨_, rfl, by kernel_rfl⟩
  obtain ⟨N, hN⟩ : ∃ N, N = Tryd.f122.ntmps := ⟨_, rfl⟩
  have hN3 : 3 ≤ N := by rw [hN]; decide
  rw [← hN] at hok
  refine callsIn_of_wp (F := Fence.wide) Tryd.func122 hc trivial ?_ rfl
  have hres : ∀ (tm : Array Value) (W' : World), (results Tryd.f122 tm).run Tryd.prog W' = .ok (.tuple #[]) W' := fun tm W' => by
    have e : Tryd.f122.results = #[] := rfl
    simp [results, e, Sem.run_bind]
  obtain ⟨Q, hQ⟩ : ∃ Q, Q = bodyPost Tryd.prog Tryd.f122 (fun e W' => (∃ v, e = .returned v) ∧ ((∃ M, J (elsOf r n).length M W') ∨ K W')) := ⟨_, rfl⟩
  have hfin : ∀ (a : Act) (W' : World), a.defers = [] → ((∃ M, J (elsOf r n).length M W') ∨ K W') → Q .ret a W' ∧ Q .normal a W' := fun a W' hd h => by
    rw [hQ]; exact ⟨⟨hd, _, hres _ _, ⟨_, rfl⟩, h⟩, ⟨hd, _, hres _ _, ⟨_, rfl⟩, h⟩⟩
  rw [← hQ]
  have hwide : Fence.wide = FW none := rfl
  rw [hwide]
  -- the code's parts
  obtain ⟨cA, c1, rfl, okA', ok1⟩ := okC_seq (a := issA rc_sheet_book_issues_1) (b := issRest rc_sheet_book_issues_1) hok
  obtain ⟨cB, c2, rfl, okB', ok2⟩ := okC_seq (a := issB1 rc_sheet_book_issues_1) (b := issB2 rc_sheet_book_issues_1) ok1
  obtain ⟨c3, rfl, ok3⟩ := okC_block (id := 0) (a := issB3 rc_sheet_book_issues_1) ok2
  obtain ⟨c4, rfl, ok4⟩ := okC_loop (a := issL rc_sheet_book_issues_1) ok3
  -- the arguments
  have hbk : ∃ v1 v2, lb = #[v1, v2] ∧ PV M W (.vptr [.vptr [.vsl (r.map isa), ds] 0] 0) v1 ∧ PV M W (.vptr [.int .i64 n] 0) v2 := by
    obtain ⟨h1, h2⟩ := hC
    match lb, h1, h2 with
    | ⟨[v1, v2]⟩, _, h2 => exact ⟨v1, v2, rfl, h2 0 _ v1 rfl rfl, h2 1 _ v2 rfl rfl⟩
  obtain ⟨v1, v2, rfl, hv1, hv2⟩ := hbk
  obtain ⟨bk, hbk⟩ : ∃ bk, bk = AV.vptr [.vsl (r.map isa), ds] 0 := ⟨_, rfl⟩
  rw [← hbk] at hv1
  -- up to the loop
  have start : SR (freshR M W N none) ⟨[(2, .vptr [.int .i64 n] 0), (1, .vptr [bk] 0), (0, .func (.yield l) [] [])], []⟩ { tmps := (#[.func (.yield l) #[] #[]] ++ #[v1, v2] : Array Value) ++ Array.replicate (N - 3) Go.undef, defers := [] } W := by
    refine fresh_start (hJM 0 M W h0) rfl (by simp; omega) fun k x hx => ?_
    have g0 : ((#[.func (.yield l) #[] #[]] ++ #[v1, v2] : Array Value) ++ Array.replicate (N - 3) Go.undef).getD 0 Go.undef = .func (.yield l) #[] #[] := by simp [Array.getD]
    have g1 : ((#[.func (.yield l) #[] #[]] ++ #[v1, v2] : Array Value) ++ Array.replicate (N - 3) Go.undef).getD 1 Go.undef = v1 := by simp [Array.getD]; omega
    have g2 : ((#[.func (.yield l) #[] #[]] ++ #[v1, v2] : Array Value) ++ Array.replicate (N - 3) Go.undef).getD 2 Go.undef = v2 := by simp [Array.getD]; omega
    simp only [lk] at hx
    split at hx
    · rename_i e; subst e; cases hx; rw [g2]; exact hv2
    · split at hx
      · rename_i e; subst e; cases hx; rw [g1]; exact hv1
      · split at hx
        · rename_i e; subst e; cases hx; rw [g0]; exact .func _ [] [] #[] #[] rfl rfl (by simp) (by simp)
        · cases hx
  have hact : ({ tmps := (#[.func (.yield l) #[] #[]] ++ #[v1, v2] : Array Value) ++ Array.replicate (Tryd.f122.ntmps - (#[.func (.yield l) #[] #[]] ++ #[v1, v2] : Array Value).size) Go.undef, defers := [] } : Act) = { tmps := (#[.func (.yield l) #[] #[]] ++ #[v1, v2] : Array Value) ++ Array.replicate (N - 3) Go.undef, defers := [] } := by rw [hN]; rfl
  rw [hact]
  have arA : AR Tryd.prog (freshR M W N none) (issA rc_sheet_book_issues_1) ⟨[(2, .vptr [.int .i64 n] 0), (1, .vptr [bk] 0), (0, .func (.yield l) [] [])], []⟩ (fun e s => e = .normal ∧ Weak s ⟨[(4, .int .i64 (lowB (r.map (·.d)) n)), (2, .vptr [.int .i64 n] 0), (1, .vptr [bk] 0), (0, .func (.yield l) [] [])], []⟩) := by
    obtain ⟨b, hb⟩ := bsearchF_pc (G := fun _ => none) r n hs hl
    refine GO_AR mixed 1000 ?_
    simp -implicitDefEqProofs [issA, rc_sheet_book_issues_1, hbk]
    refine CallD.of hb (by simp [AV.pure]) ?_
    simp -implicitDefEqProofs []
    exact ⟨rfl, (by (first | exact Weak.tm (by simp [lk]) | exact Weak.sub (by simp [lk, keptA, AV.keys]) (by simp [lk, keptO, keptA, AV.keys])))⟩
  have hdr : List.drop (lowB (r.map (·.d)) n) (r.map isa) = seg.map isa := by rw [← List.map_drop, hseg]
  have hsg : seg.length = r.length - lowB (r.map (·.d)) n := by rw [← hseg]; simp
  have htk : List.take r.length (r.map isa) = r.map isa := List.take_of_length_le (by simp)
  have k5 : (r.map isa).all (fun r => r.length == 5) = true := by simp [isa]
  have arB : ∀ R' : Run, AR Tryd.prog R' (issB1 rc_sheet_book_issues_1) ⟨[(4, .int .i64 (lowB (r.map (·.d)) n)), (2, .vptr [.int .i64 n] 0), (1, .vptr [bk] 0), (0, .func (.yield l) [] [])], []⟩ (fun e s => e = .normal ∧ Weak s ⟨itS seg bk n l 0, []⟩) := fun R' => by
    refine GO_AR mixed 1000 ?_
    simp -implicitDefEqProofs [issA, issB1, issRest, rc_sheet_book_issues_1, hbk, hle, k5, hdr]
    exact (by (first | exact Weak.tm (by simp [lk, itS, hsg, htk, hdr]) | exact Weak.sub (by simp [lk, keptA, AV.keys, itS, hsg, htk, hdr]) (by simp [lk, keptO, keptA, AV.keys, itS, hsg, htk, hdr])))
  refine wpIn_seq (wpIn_mono (arA cA okA' _ _ W start) ?_)
  rintro e a1 W1 ⟨s1, ⟨rfl, hw1⟩, hs1⟩
  refine wpIn_seq (wpIn_mono (arB _ cB okB' _ a1 W1 (hw1 _ _ _ hs1)) ?_)
  rintro e a2 W2 ⟨s2, ⟨rfl, hw2⟩, hs2⟩
  obtain ⟨d2, n2, t2, e2⟩ := fresh_end hs2 hw2 (by simp [itS, AV.pure, hbk])
  have hJ2 := hJe _ _ _ _ h0 e2
  clear hs2 hw2 hs1 hw1 arA arB start hact
  refine wpIn_block ?_
  refine wpIn_loop_ghost (fun m a A => ∃ i M, i ≤ cnt ∧ m = seg.length - i ∧ J i M A ∧ a.defers = [] ∧ a.tmps.size = N ∧ TT' M A (itS seg bk n l i) a) seg.length ⟨0, M, Nat.zero_le _, by simp, hJ2, d2, n2, t2⟩ ?_
  clear hJ2 d2 n2 t2 e2 h0 hv1 hv2 hC
  rintro m a A ⟨i, M, hi, rfl, hJ, hd, hn2, ht⟩
  have hfr : SR (freshR M A N none) ⟨itS seg bk n l i, []⟩ a A := fresh_start (hJM i M A hJ) hd hn2 ht
  by_cases hlt : i < seg.length
  case neg =>
    have hic : i = cnt := by omega
    subst hic
    have ar : ∀ R' : Run, AR Tryd.prog R' (issL rc_sheet_book_issues_1) ⟨itS seg bk n l i, []⟩ (fun e s => e = .exit 0 ∧ Weak s ⟨[], []⟩) := fun R' => by
      refine GO_AR mixed 1000 ?_
      simp -implicitDefEqProofs [issL, issB3, issB2, issRest, rc_sheet_book_issues_1, itS, hlt]
      exact (by (first | exact Weak.tm (by simp [lk]) | exact Weak.sub (by simp [lk, keptA, AV.keys]) (by simp [lk, keptO, keptA, AV.keys])))
    refine wpIn_mono (ar _ c4 ok4 _ a A hfr) ?_
    rintro e a3 A3 ⟨s3, ⟨rfl, hw3⟩, hs3⟩
    obtain ⟨d3, -, -, e3⟩ := fresh_end hs3 hw3 (by simp)
    refine (hfin a3 A3 d3 (.inl ⟨M, ?_⟩)).2
    rw [hel]; exact hJe _ _ _ _ hJ e3
  by_cases hd2 : seg[i].d = n
  case neg =>
    have hic : i = cnt := by
      by_cases e : i < cnt
      · exact absurd ((hc2 i e).2 _ (List.getElem?_eq_getElem hlt)) hd2
      · omega
    subst hic
    have ar : ∀ R' : Run, AR Tryd.prog R' (issL rc_sheet_book_issues_1) ⟨itS seg bk n l i, []⟩ (fun e s => e = .ret ∧ Weak s ⟨[], []⟩) := fun R' => by
      refine GO_AR mixed 1000 ?_
      simp -implicitDefEqProofs [issL, issB3, issB2, issRest, rc_sheet_book_issues_1, itS, hlt, isa, hd2]
      exact (by (first | exact Weak.tm (by simp [lk]) | exact Weak.sub (by simp [lk, keptA, AV.keys]) (by simp [lk, keptO, keptA, AV.keys])))
    refine wpIn_mono (ar _ c4 ok4 _ a A hfr) ?_
    rintro e a3 A3 ⟨s3, ⟨rfl, hw3⟩, hs3⟩
    obtain ⟨d3, -, -, e3⟩ := fresh_end hs3 hw3 (by simp)
    refine (hfin a3 A3 d3 (.inl ⟨M, ?_⟩)).1
    rw [hel]; exact hJe _ _ _ _ hJ e3
  have hic : i < cnt := by
    by_cases e : i < cnt
    · exact e
    · exact absurd hd2 (hc3 _ (by rw [show cnt = i by omega]; exact List.getElem?_eq_getElem hlt))
  have helt : (elsOf r n)[i]? = some (.agg (isa seg[i])) := by
    simp only [elsOf, List.getElem?_map, (hc2 i hic).1, List.getElem?_eq_getElem hlt, Option.map_some]
  obtain ⟨L, hL⟩ : ∃ L, L = issL rc_sheet_book_issues_1 := ⟨_, rfl⟩
  obtain ⟨r2, q1, rfl, okr2, okq1⟩ := okC_seq (a := issA (issL rc_sheet_book_issues_1)) (b := issRest (issL rc_sheet_book_issues_1)) ok4
  obtain ⟨k1, q2, rfl, okk1, okq2⟩ := okC_seq (a := issA (issRest (issL rc_sheet_book_issues_1))) (b := issRest (issRest (issL rc_sheet_book_issues_1))) okq1
  obtain ⟨q3, r5, rfl, okq3, okr5⟩ := okC_seq (a := issA (issRest (issRest (issL rc_sheet_book_issues_1)))) (b := issRest (issRest (issRest (issL rc_sheet_book_issues_1)))) okq2
  obtain ⟨q4, rfl, okq4⟩ := okC_block (id := 1) (a := issBk (issA (issRest (issRest (issL rc_sheet_book_issues_1))))) okq3
  obtain ⟨r3, q5, rfl, okr3, okq5⟩ := okC_seq (a := issA (issBk (issA (issRest (issRest (issL rc_sheet_book_issues_1)))))) (b := issRest (issBk (issA (issRest (issRest (issL rc_sheet_book_issues_1)))))) okq4
  obtain ⟨r4, k2, rfl, okr4, okk2⟩ := okC_seq (a := issA (issRest (issBk (issA (issRest (issRest (issL rc_sheet_book_issues_1))))))) (b := issRest (issRest (issBk (issA (issRest (issRest (issL rc_sheet_book_issues_1))))))) okq5
  obtain ⟨ops, rfl, hops⟩ := okC_reg (id := 4) (rs := issOps (issA (issRest (issBk (issA (issRest (issRest (issL rc_sheet_book_issues_1)))))))) okr4
  obtain ⟨hol, hoo⟩ := allB2_spec hops
  have hol : ops.size = 10 := hol
  -- the test
  have ar2 : AR Tryd.prog (freshR M A N none) (issA (issL rc_sheet_book_issues_1)) ⟨itS seg bk n l i, []⟩ (fun e s => e = .normal ∧ Weak s ⟨(27, .bool true) :: itS seg bk n l i, []⟩) := by
    refine GO_AR mixed 1000 ?_
    simp -implicitDefEqProofs [issL, issB3, issB2, issA, issRest, rc_sheet_book_issues_1, itS, hlt]
    exact (by (first | exact Weak.tm (by simp [lk]) | exact Weak.sub (by simp [lk, keptA, AV.keys]) (by simp [lk, keptO, keptA, AV.keys])))
  refine wpIn_seq (wpIn_mono (ar2 r2 okr2 _ a A hfr) ?_)
  rintro e b1 B1 ⟨s1, ⟨rfl, w1⟩, hs1⟩
  have ark : AR Tryd.prog (freshR M A N none) (issA (issRest (issL rc_sheet_book_issues_1))) ⟨(27, .bool true) :: itS seg bk n l i, []⟩ (fun e s => e = .normal ∧ Weak s ⟨itS seg bk n l i, []⟩) := by
    refine GO_AR mixed 1000 ?_
    simp -implicitDefEqProofs [issL, issB3, issB2, issA, issRest, rc_sheet_book_issues_1, itS]
    exact (by (first | exact Weak.tm (by simp [lk]) | exact Weak.sub (by simp [lk, keptA, AV.keys]) (by simp [lk, keptO, keptA, AV.keys])))
  refine wpIn_seq (wpIn_mono (ark k1 okk1 _ b1 B1 (w1 _ _ _ hs1)) ?_)
  rintro e b2 B2 ⟨s2, ⟨rfl, w2⟩, hs2⟩
  refine wpIn_seq (wpIn_block ?_)
  have ar3 : AR Tryd.prog (freshR M A N none) (issA (issBk (issA (issRest (issRest (issL rc_sheet_book_issues_1)))))) ⟨itS seg bk n l i, []⟩ (fun e s => e = .normal ∧ Weak s ⟨(7, .ptr 7 0) :: itS seg bk n l i, [(7, .box (isa seg[i]))]⟩) := by
    refine GO_AR mixed 1000 ?_
    simp -implicitDefEqProofs [issL, issB3, issB2, issA, issRest, issBk, rc_sheet_book_issues_1, itS, hlt, isa]
    exact (by (first | exact Weak.tm (by simp [lk]) | exact Weak.sub (by simp [lk, keptA, AV.keys]) (by simp [lk, keptO, keptA, AV.keys])))
  refine wpIn_seq (wpIn_mono (ar3 r3 okr3 _ b2 B2 (w2 _ _ _ hs2)) ?_)
  rintro e b3 B3 ⟨s3, ⟨rfl, w3⟩, hs3⟩
  have hs3 := w3 _ _ _ hs3
  clear hs1 hs2 w1 w2 w3 ar2 ark ar3
  refine wpIn_seq (wpIn_region ?_)
  have hrg : List.range ops.size = [0, 1, 2, 3, 4, 5, 6] ++ [7, 8, 9] := by rw [hol]; rfl
  rw [hrg]
  have okAt : ∀ (k : Nat) (r : ROper), (issOps (issA (issRest (issBk (issA (issRest (issRest (issL rc_sheet_book_issues_1))))))))[k]? = some r → ∃ o, ops[k]? = some o ∧ okOper Tryd.prog N ops o r = true := fun k r hk => by
    have hlt : k < ops.size := by
      have := (List.getElem?_eq_some_iff.1 hk).1
      rw [hol]; exact this
    exact ⟨ops[k], by simp [hlt], hoo k _ r (by simp [hlt]) hk⟩
  refine reg_simK (R := freshR M A N none) [7, 8, 9] _ ((issOps (issA (issRest (issBk (issA (issRest (issRest (issL rc_sheet_book_issues_1)))))))).take 7) ⟨(7, .ptr 7 0) :: itS seg bk n l i, [(7, .box (isa seg[i]))]⟩
    (fun s => Weak s ⟨(36, .agg (isa seg[i])) :: (35, .func (.yield l) [] []) :: (34, .bool false) :: itS seg bk n l i, []⟩) b3 B3 ?_ rfl ?_ ?_ hs3
  · intro k r hk
    rw [List.getElem?_take] at hk
    split at hk
    · rename_i h7
      obtain ⟨o, h1, h2⟩ := okAt k r hk
      refine ⟨k, o, ?_, h1, h2⟩
      match k, h7 with
      | 0, _ | 1, _ | 2, _ | 3, _ | 4, _ | 5, _ | 6, _ => rfl
    · cases hk
  · intro s4 b4 B4 w4 hs4
    obtain ⟨κ4, hk4⟩ := w4 _ _ _ hs4
    obtain ⟨d4, n4, t4, e4⟩ := fresh_end hs4 w4 (by simp [itS, AV.pure, hbk, isa])
    obtain ⟨o7, ho7, hk7⟩ := okAt 7 _ rfl
    rw [wpOpsIn_cons]
    refine yield_sim (R := freshR M A N none) (l := l) (f := .t 35) (y := .t 36) rfl (by simp [evA, St.tmp, lk]) (by simp [wants, St.tmp, lk]) ho7 hk7 hk4 fun u hu => ?_
    have hpu : PV M B4 (.agg (isa seg[i])) u := by
      have h36 : evA (freshR M A N none).G ⟨(36, .agg (isa seg[i])) :: (35, .func (.yield l) [] []) :: (34, .bool false) :: itS seg bk n l i, []⟩ (.t 36) = .agg (isa seg[i]) := by simp [evA, St.tmp, lk]
      rw [h36] at hu
      exact (hu.toPV (by simp [AV.pure, isa])).mono (fun b _ hb => ⟨fun h => hb (.inl h), rfl⟩) (Nat.le_refl _)
    have hdst : o7.dst = some 37 := by
      simp only [okOper, Bool.and_eq_true, decide_eq_true_eq] at hk7
      exact hk7.1.1.1
    have h34 : b4.tmps.getD 34 Go.undef = .bool false := by
      have := t4 34 (.bool false) (by simp [lk])
      generalize b4.tmps.getD 34 Go.undef = v at this
      cases this; rfl
    have suffix : ∀ (b : Bool) (T : List (Nat × AV)) (M' : Nat → Prop) (A' : World), (T = itS seg bk n l i ∨ T = []) → (∀ x, M' x → x < A'.heap.size) → TT' M' A' T b4 → ∀ (Qx : Exit → Act → World → Prop),
        (∀ a5 A5, SR (freshR M' A' N none) ⟨(39, .bool (!b)) :: T, []⟩ a5 A5 → Qx .normal a5 A5) → wpOpsIn (FW none) n' Tryd.prog ops Qx [8, 9] (b4.put (some 37) (.bool b)) A' := by
      intro b T M' A' hTT hM' hT Qx hQx
      have n37 : 37 < N := by rw [hN]; decide
      have hsr : SR (freshR M' A' N none) ⟨(37, .bool b) :: (34, .bool false) :: T, []⟩ (b4.put (some 37) (.bool b)) A' := by
        refine fresh_start hM' d4 (by simpa [Act.put] using n4) fun k x hx => ?_
        show PV M' A' x ((b4.tmps.setIfInBounds 37 (.bool b)).getD k Go.undef)
        simp only [lk] at hx
        split at hx
        · rename_i e
          subst e
          cases hx
          have : (b4.tmps.setIfInBounds 37 (.bool b)).getD 37 Go.undef = .bool b := by simp [Array.getD, n4, n37]
          rw [this]; exact .bool b
        · rename_i e
          have h3 : (b4.tmps.setIfInBounds 37 (.bool b)).getD k Go.undef = b4.tmps.getD k Go.undef := by
            simp only [Array.getD_eq_getD_getElem?, Array.getElem?_setIfInBounds, if_neg e]
          rw [h3]
          split at hx
          · rename_i e2; subst e2; cases hx; rw [h34]; exact .bool false
          · exact hT k x hx
      refine reg_sim (R := freshR M' A' N none) [8, 9] ((issOps (issA (issRest (issBk (issA (issRest (issRest (issL rc_sheet_book_issues_1)))))))).drop 8) ⟨(37, .bool b) :: (34, .bool false) :: T, []⟩
        (fun e s => e = .normal ∧ Weak s ⟨(39, .bool (!b)) :: T, []⟩) Qx _ A' ?_ rfl ?_ ?_ hsr
      · intro k r hk
        rw [List.getElem?_drop] at hk
        obtain ⟨o, h1, h2⟩ := okAt (8 + k) r hk
        have h7 : k < 2 := by
          have := (List.getElem?_eq_some_iff.1 hk).1
          have e : (issOps (issA (issRest (issBk (issA (issRest (issRest (issL rc_sheet_book_issues_1)))))))).length = 10 := rfl
          omega
        refine ⟨8 + k, o, ?_, h1, h2⟩
        match k, h7 with
        | 0, _ | 1, _ => rfl
      · rintro e s5 a5 A5 ⟨rfl, w5⟩ hs5
        exact hQx a5 A5 (w5 _ _ _ hs5)
      · rcases hTT with rfl | rfl <;> cases b
        all_goals
          simp -implicitDefEqProofs [issL, issB3, issB2, issA, issRest, issBk, issOps, rc_sheet_book_issues_1, itS]
          exact (by (first | exact Weak.tm (by simp [lk]) | exact Weak.sub (by simp [lk, keptA, AV.keys]) (by simp [lk, keptO, keptA, AV.keys])))
    obtain ⟨fn, tm, asg, bo, y1, y2⟩ := hY i _ u M B4 (hJe _ _ _ _ hJ e4) helt hpu
    refine ⟨fn, tm, asg, bo, y1, y2.mono ?_⟩
    rintro e A' (⟨rfl, M', hJ', hSi⟩ | ⟨rfl, hK'⟩)
    · show wpOpsIn (FW none) n' Tryd.prog ops _ [8, 9] (b4.put o7.dst (.bool true)) A'
      rw [hdst]
      have hT' : TT' M' A' (itS seg bk n l i) b4 := fun k x hx => by
        refine (t4 k x ?_).mono hSi.2 hSi.1
        simp only [lk]
        rw [if_neg (by rintro rfl; simp [itS, lk] at hx), if_neg (by rintro rfl; simp [itS, lk] at hx), if_neg (by rintro rfl; simp [itS, lk] at hx)]
        exact hx
      refine suffix true _ M' A' (.inl rfl) (hJM _ _ _ hJ') hT' _ fun a5 A5 h5 => ?_
      have ark2 : AR Tryd.prog (freshR M' A' N none) (issRest (issRest (issBk (issA (issRest (issRest (issL rc_sheet_book_issues_1))))))) ⟨(39, .bool (!true)) :: itS seg bk n l i, []⟩ (fun e s => e = .normal ∧ Weak s ⟨itS seg bk n l i, []⟩) := by
        refine GO_AR mixed 1000 ?_
        simp -implicitDefEqProofs [issL, issB3, issB2, issA, issRest, issBk, rc_sheet_book_issues_1, itS]
        exact (by (first | exact Weak.tm (by simp [lk]) | exact Weak.sub (by simp [lk, keptA, AV.keys]) (by simp [lk, keptO, keptA, AV.keys])))
      refine wpIn_mono (ark2 k2 okk2 _ a5 A5 h5) ?_
      rintro e b6 B6 ⟨s6, ⟨rfl, w6⟩, hs6⟩
      have ar5 : AR Tryd.prog (freshR M' A' N none) (issRest (issRest (issRest (issL rc_sheet_book_issues_1)))) ⟨itS seg bk n l i, []⟩ (fun e s => e = .normal ∧ Weak s ⟨itS seg bk n l (i + 1), []⟩) := by
        have w1 : IntKind.i64.wrap ((i : Int) + 1) = ((i + 1 : Nat) : Int) := wrapI (by omega) (by omega)
        refine GO_AR mixed 1000 ?_
        simp -implicitDefEqProofs [issL, issB3, issB2, issA, issRest, issBk, rc_sheet_book_issues_1, itS, w1]
        exact (by (first | exact Weak.tm (by simp [lk]) | exact Weak.sub (by simp [lk, keptA, AV.keys]) (by simp [lk, keptO, keptA, AV.keys])))
      refine wpIn_mono (ar5 r5 okr5 _ b6 B6 (w6 _ _ _ hs6)) ?_
      rintro e b7 B7 ⟨s7, ⟨rfl, w7⟩, hs7⟩
      obtain ⟨d7, n7, t7, e7⟩ := fresh_end hs7 w7 (by simp [itS, AV.pure, hbk])
      exact ⟨seg.length - (i + 1), by omega, i + 1, M', by omega, rfl, hJe _ _ _ _ hJ' e7, d7, n7, t7⟩
    · show wpOpsIn (FW none) n' Tryd.prog ops _ [8, 9] (b4.put o7.dst (.bool false)) A'
      rw [hdst]
      refine suffix false [] (fun _ => False) A' (.inr rfl) (fun _ h => h.elim) (fun k x hx => by simp [lk] at hx) _ fun a5 A5 h5 => ?_
      have ark2 : AR Tryd.prog (freshR (fun _ => False) A' N none) (issRest (issRest (issBk (issA (issRest (issRest (issL rc_sheet_book_issues_1))))))) ⟨[(39, .bool (!false))], []⟩ (fun e s => e = .ret ∧ Weak s ⟨[], []⟩) := by
        refine GO_AR mixed 1000 ?_
        simp -implicitDefEqProofs [issL, issB3, issB2, issA, issRest, issBk, rc_sheet_book_issues_1]
        exact (by (first | exact Weak.tm (by simp [lk]) | exact Weak.sub (by simp [lk, keptA, AV.keys]) (by simp [lk, keptO, keptA, AV.keys])))
      refine wpIn_mono (ark2 k2 okk2 _ a5 A5 h5) ?_
      rintro e b6 B6 ⟨s6, ⟨rfl, w6⟩, hs6⟩
      obtain ⟨d6, -, -, e6⟩ := fresh_end hs6 w6 (by simp)
      exact (hfin b6 B6 d6 (.inr (hKe _ _ hK' e6))).1
  · simp -implicitDefEqProofs [issL, issB3, issB2, issA, issRest, issBk, issOps, rc_sheet_book_issues_1, itS, isa, hd2]
    exact (by (first | exact Weak.tm (by simp [lk]) | exact Weak.sub (by simp [lk, keptA, AV.keys]) (by simp [lk, keptO, keptA, AV.keys])))
end
end Go.Proofs.YtdpmioiamcgfkaaDoor
