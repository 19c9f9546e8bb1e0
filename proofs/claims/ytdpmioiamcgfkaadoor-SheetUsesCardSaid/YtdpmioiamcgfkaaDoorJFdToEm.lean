/-
  Parts and trees: what the program's functions compute: the issues that are taken.
-/
import Derived.Test.YtdpmioiamcgfkaaDoorJRcHToRcB
import Derived.Test.YtdpmioiamcgfkaaDoorJEdToFc
import Derived.Test.YtdpmioiamcgfkaaDoorJAmPToOpen
import Derived.Test.YtdpmioiamcgfkaaDoorJAmIToAmO
import Derived.Test.YtdpmioiamcgfkaaDoorProg
set_option linter.unusedSimpArgs false
set_option linter.unusedVariables false
namespace Go.Proofs.YtdpmioiamcgfkaaDoor
open Go.RowKit

/-! Maps by drawings. -/
def mpA {α : Type} (f : α → AV) (l : List (Int × α)) : List (AV × AV) := l.map fun p => (.int .i64 p.1, f p.2)
def mlk {α : Type} (n : Int) : List (Int × α) → Option α
  | [] => none
  | p :: l => if n = p.1 then some p.2 else mlk n l
theorem find_mp {α : Type} (f : α → AV) (n : Int) : ∀ l : List (Int × α), ∃ o : Option Nat, (KK.i .i64).find (.int .i64 n) (mpA f l) = some o ∧ match o with
    | some j => ∃ v, l[j]? = some (n, v) ∧ mlk n l = some v
    | none => mlk n l = none ∧ ∀ p ∈ l, p.1 ≠ n
  | [] => ⟨none, rfl, rfl, by simp⟩
  | p :: r => by
    obtain ⟨o, h1, h2⟩ := find_mp f n r
    by_cases e : n = p.1
    · refine ⟨some 0, by simp [mpA, KK.find, KK.eq, e], p.2, by simp [e], by simp [mlk, e]⟩
    · refine ⟨o.map (· + 1), ?_, ?_⟩
      · simp only [mpA, List.map_cons, KK.find, KK.eq, and_self, if_true, e, decide_false]
        rw [show r.map (fun p => (AV.int .i64 p.1, f p.2)) = mpA f r from rfl, h1]; rfl
      · cases o with
        | none => exact ⟨by simp only [mlk, e, if_false]; exact h2.1, fun q hq => by
            rcases List.mem_cons.1 hq with rfl | hq
            · exact fun h => e h.symm
            · exact h2.2 q hq⟩
        | some j =>
          obtain ⟨v, h3, h4⟩ := h2
          exact ⟨v, by simpa using h3, by simp only [mlk, e, if_false]; exact h4⟩
theorem get_mp {α : Type} (f : α → AV) (n : Int) (l : List (Int × α)) : (KK.i .i64).get (.int .i64 n) (mpA f l) = some ((mlk n l).map f) := by
  obtain ⟨o, h1, h2⟩ := find_mp f n l
  have hi : (KK.i .i64).is (.int .i64 n) = true := by simp [KK.is]
  unfold KK.get
  rw [if_pos hi, h1]
  cases o with
  | none => simp [h2.1]
  | some j => obtain ⟨v, h3, h4⟩ := h2; simp [mpA, h3, h4]
theorem put_mp {α : Type} (f : α → AV) {n : Int} (v : α) {l : List (Int × α)} (h : n ∉ l.map (·.1)) : (KK.i .i64).put (.int .i64 n) (f v) (mpA f l) = some (mpA f (l ++ [(n, v)])) := by
  obtain ⟨o, h1, h2⟩ := find_mp f n l
  have hi : (KK.i .i64).is (.int .i64 n) = true := by simp [KK.is]
  unfold KK.put
  rw [if_pos hi, h1]
  cases o with
  | none => simp [mpA]
  | some j =>
    obtain ⟨w, h3, h4⟩ := h2
    exact absurd (List.mem_map.2 ⟨_, List.mem_of_getElem? h3, rfl⟩) h
theorem find_ct (n v : Int) : ∀ l : List (Int × Int), ∃ o : Option Nat, (KK.i .i64).find (.int .i64 n) (dpA l) = some o ∧ match o with
    | some j => j < l.length ∧ mpPut n v l = l.set j (n, v)
    | none => mpPut n v l = l ++ [(n, v)]
  | [] => ⟨none, rfl, rfl⟩
  | p :: r => by
    obtain ⟨o, h1, h2⟩ := find_ct n v r
    by_cases e : n = p.1
    · exact ⟨some 0, by simp [dpA, KK.find, KK.eq, e], by simp, by simp [mpPut, e]⟩
    · refine ⟨o.map (· + 1), ?_, ?_⟩
      · simp only [dpA, List.map_cons, KK.find, KK.eq, and_self, if_true, e, decide_false]
        rw [show r.map (fun p => (AV.int .i64 p.1, AV.int .i64 p.2)) = dpA r from rfl, h1]; rfl
      · have e' : ¬ p.1 = n := fun h => e h.symm
        cases o with
        | none => simp only [Option.map_none, mpPut, if_neg e', h2]; rfl
        | some j => exact ⟨by simp only [List.length_cons]; omega, by simp only [mpPut, if_neg e', h2.2]; rfl⟩
theorem put_ct (n v : Int) (l : List (Int × Int)) : (KK.i .i64).put (.int .i64 n) (.int .i64 v) (dpA l) = some (dpA (mpPut n v l)) := by
  obtain ⟨o, h1, h2⟩ := find_ct n v l
  have hi : (KK.i .i64).is (.int .i64 n) = true := by simp [KK.is]
  unfold KK.put
  rw [if_pos hi, h1]
  cases o with
  | none => simp only [h2]; simp [dpA]
  | some j => rw [h2.2]; simp [dpA, List.map_set]

/-- The issues that are taken, by drawings. -/
def byN (r : List Iss) (lt : List Int) (i : Nat) : List (Int × Iss) := ((nums r).take i).map fun n => (n, tkV r lt n)
def isA (x : Iss) : AV := .agg (isa x)
def byA (r : List Iss) (lt : List Int) : AV := .vmap (mpA isA (byN r lt (nums r).length))
theorem byN_succ {r : List Iss} {lt : List Int} {i : Nat} (h : i < (nums r).length) : byN r lt (i + 1) = byN r lt i ++ [((nums r)[i], tkV r lt (nums r)[i])] := by
  rw [byN, List.take_succ_eq_append_getElem h, List.map_append]; rfl
theorem byN_new {r : List Iss} {lt : List Int} (hO : Ord r) {i : Nat} (h : i < (nums r).length) : (nums r)[i] ∉ (byN r lt i).map (·.1) := by
  simp only [byN, List.map_map, List.mem_map, Function.comp]
  rintro ⟨n, hn, e⟩
  obtain ⟨j, hj, rfl⟩ := List.getElem_of_mem hn
  simp only [List.length_take] at hj
  simp only [List.getElem_take] at e
  have := List.pairwise_iff_getElem.1 (nums_lt hO) j i (by omega) h (by omega)
  omega
theorem idxOf_num {r : List Iss} (hO : Ord r) {i : Nat} (h : i < (nums r).length) : (nums r).idxOf (nums r)[i] = i := by
  have h1 : (nums r).idxOf (nums r)[i] < (nums r).length := List.idxOf_lt_length_iff.2 (List.getElem_mem h)
  have h2 := List.getElem_idxOf h1
  rcases Nat.lt_trichotomy ((nums r).idxOf (nums r)[i]) i with c | c | c
  · have := List.pairwise_iff_getElem.1 (nums_lt hO) _ i h1 h c
    omega
  · exact c
  · have := List.pairwise_iff_getElem.1 (nums_lt hO) i _ h h1 c
    omega
theorem byN_pure (r : List Iss) (lt : List Int) (i : Nat) : (mpA isA (byN r lt i)).all (fun p => p.1.pure && p.2.pure) = true := by
  simp only [mpA, List.all_eq_true, List.mem_map]
  rintro _ ⟨y, -, rfl⟩
  simp [isA, isa, AV.pure]
theorem byN_get {r : List Iss} {lt : List Int} {n : Int} (hn : n ∈ nums r) : mlk n (byN r lt (nums r).length) = some (tkV r lt n) := by
  rw [byN, List.take_length]
  have key : ∀ l : List Int, n ∈ l → mlk n (l.map fun n => (n, tkV r lt n)) = some (tkV r lt n) := by
    intro l
    induction l with
    | nil => intro h; cases h
    | cons x l ih =>
      intro h
      simp only [List.map_cons, mlk]
      by_cases e : n = x
      · rw [if_pos e, e]
      · rw [if_neg e]; exact ih ((List.mem_cons.1 h).resolve_left e)
  exact key _ hn
theorem kept_isA (o : List (Nat × AObj)) (l : List (Int × Iss)) : keptO o (.mp (mpA isA l)) = true := by
  simp only [keptO, List.all_eq_true, mpA, List.mem_map]
  rintro _ ⟨y, -, rfl⟩
  simp [isA, isa, keptA, AV.keys]
def takA (r : List Iss) (lt : List Int) (n : Int) : AV := .tup [if askV r lt n = 0 then bkA r (nums r) else .nilp, if askV r lt n = 0 then byA r lt else .nilm, .int .i64 (askV r lt n)]

section
variable {G : Nat → Option (List AV)}

theorem taken_pc (hG : GC G) (r : List Iss) (lt : List Int) (n : Int) (h : Wf r) : PC Tryd.prog G 76 [rega r, .vsl (lt.map ia), .int .i64 n] (takA r lt n) := by
  (refine pc_sheet_taken (Nat.le_of_ble_eq_true rfl) fun R hG hrd => GO_AR mixed 1000 ?_; subst hG)
  simp -implicitDefEqProofs [rc_sheet_taken, rr_sheet_taken, rega]
  (first | refine CallK.of (open_pc hG r h) (by simp) ?_ | refine CallD.of (open_pc hG r h) (by simp) ?_)
  by_cases e : openV r = 0
  case neg => simp -implicitDefEqProofs [openA, e, takA, askV]
  have hL := open_listed e
  have hO := ord_of hL
  have hl := listed_20 hL
  by_cases q : lt.length = (nums r).length
  case neg =>
    have q' : ¬ (lt.length : Int) = (nums r).length := by omega
    have no : askV r lt n = 22 := by simp [askV, e, ltB, q]
    simp -implicitDefEqProofs [openA, e, bkA, q', takA, no]
  have q' : (lt.length : Int) = (nums r).length := by omega
  simp -implicitDefEqProofs [openA, e, bkA, q']
  refine AR_for (fun i => ⟨[(34, .int .i64 i), (33, .int .i64 (nums r).length), (11, .mp 31), (9, bkA r (nums r)), (1, .vsl (lt.map ia)), (2, .int .i64 n)], [(31, .mp (mpA isA (byN r lt i)))]⟩) (fun i => ∀ j, j < i → inR (lt.getD j 0) 1 (lastV r ((nums r).getD j 0)) = true) (nums r).length (by (first | exact Weak.tm (by simp [lk, bkA, mpA, byN]) | exact Weak.sub (by simp [lk, keptA, AV.keys, bkA, mpA, byN]) (by simp [lk, keptO, keptA, AV.keys, bkA, mpA, byN]))) (by simp) ?_ ?_
  · intro i hi he
    refine GO_AR mixed 1000 ?_
    have w1 : IntKind.i64.wrap ((i : Int) + 1) = ((i + 1 : Nat) : Int) := wrapI (by omega) (by omega)
    have hi2 : i < lt.length := by omega
    have e1 : lt.getD i 0 = lt[i] := by simp [List.getD, hi2]
    have e2 : (nums r).getD i 0 = (nums r)[i] := by simp [List.getD, hi]
    simp -implicitDefEqProofs [hi, hi2, ia, bkA]
    (first | refine CallK.of (find_pcS r (nums r) (nums r)[i] lt[i] (ord_map hO) h.1.1 (find_own hL)) (by simp) ?_ | refine CallD.of (find_pcS r (nums r) (nums r)[i] lt[i] (ord_map hO) h.1.1 (find_own hL)) (by simp) ?_)
    cases f : findN (nums r)[i] lt[i] r with
    | none =>
      have no : askV r lt n = 22 := by
        have : ltB r lt = false := by
          cases hI : ltB r lt
          · rfl
          · simp only [ltB, Bool.and_eq_true] at hI
            have := range_all.1 hI.2 i hi
            rw [e1, e2, ← find_iff hL, f] at this; cases this
        simp [askV, e, this]
      simp -implicitDefEqProofs [fndA, noIs]
      refine ⟨rfl, ?_⟩
      refine GO_ret mixed 1000 ?_
      simp -implicitDefEqProofs [takA, no]
    | some x =>
      simp -implicitDefEqProofs [fndA, isa]
      obtain ⟨hm, hd, hl2⟩ := findN_mem f
      have et : tkV r lt (nums r)[i] = x := by
        have : ltOf r lt (nums r)[i] = lt[i] := by rw [ltOf, idxOf_num hO hi, e1]
        rw [tkV, this, f]; rfl
      have pm := put_mp isA x (byN_new (lt := lt) hO hi)
      rw [← et, ← byN_succ hi, et, isA, isa, hd] at pm
      simp -implicitDefEqProofs [hd, pm, w1]
      refine ⟨rfl, ?_, fun j hj => ?_⟩
      · refine Weak.sub (by simp [lk, keptA, AV.keys]) ?_
        simp only [List.mem_cons, List.not_mem_nil, or_false, forall_eq, kept_isA, and_true]
        simp [lk]
      · by_cases ej : j = i
        · subst ej
          simp only [List.getD_eq_getElem?_getD] at e1 e2
          rw [e1, e2, ← find_iff hL, f]; rfl
        · simpa using he j (by omega)
  · intro he
    refine GO_AR mixed 1000 ?_
    have yes : ltB r lt = true := by simp only [ltB, Bool.and_eq_true, decide_eq_true_eq]; exact ⟨q, range_all.2 he⟩
    simp -implicitDefEqProofs []
    refine GO_ret mixed 1000 ?_
    simp -implicitDefEqProofs []
    (first | refine CallK.of (has_pc r (nums r) n (nums_le hO) (nums_sml h.1.1)) (by simp) ?_ | refine CallD.of (has_pc r (nums r) n (nums_le hO) (nums_sml h.1.1)) (by simp) ?_)
    by_cases c : n ∈ nums r
    · have yes2 : askV r lt n = 0 := by simp [askV, e, yes, c]
      simp -implicitDefEqProofs [c, takA, yes2]
      have pu := byN_pure r lt (nums r).length
      simp -implicitDefEqProofs [pu, bkA, byA]
    · have no : askV r lt n = 6 := by simp [askV, e, yes, c]
      simp -implicitDefEqProofs [c, takA, no]
end
end Go.Proofs.YtdpmioiamcgfkaaDoor

/-! Plain functions: where drawings are used, what is above them, how issues differ; and that the program's way and the reference's give the same. -/
namespace Go.Proofs.YtdpmioiamcgfkaaDoor
open Go.RowKit

/-! ### Items. -/
/-- How often a drawing is an item. -/
def ctL (n : Int) : List (Int × Int) → Int
  | [] => 0
  | y :: l => if y.1 = n then y.2 else ctL n l
def needL (n : Int) (l : List (Int × Int)) : Bool := l.any fun y => decide (y.1 = n)
theorem its_at {x : Iss} (h : issB x = true) {j : Nat} (hj : j < x.its.length) : 1 ≤ x.its[j].1 ∧ 1 ≤ x.its[j].2 ∧ x.its[j].2 ≤ 20 ∧ x.its[j].1 ≠ x.d ∧ ∀ i (hi : i < j), x.its[i].1 < x.its[j].1 := by
  simp only [issB, Bool.and_eq_true] at h
  have all := range_all.1 h.1.2
  have at1 : ∀ j (hj : j < x.its.length), itAt x j = x.its[j] := fun j hj => by simp [itAt, List.getD, hj]
  have one : ∀ j (hj : j < x.its.length), 1 ≤ x.its[j].1 ∧ 1 ≤ x.its[j].2 ∧ x.its[j].2 ≤ 20 ∧ x.its[j].1 ≠ x.d ∧ (∀ hi : 0 < j, x.its[j - 1].1 < x.its[j].1) := fun j hj => by
    have h1 := all j hj
    simp only [itOk, at1 j hj, Bool.and_eq_true, inR, decide_eq_true_eq, Bool.not_eq_true', decide_eq_false_iff_not, Bool.or_eq_true, beq_iff_eq] at h1
    refine ⟨by omega, by omega, by omega, h1.1.2, fun hi => ?_⟩
    have h2 := h1.2
    rw [at1 (j - 1) (by omega)] at h2
    omega
  have lt : ∀ (d i : Nat) (h : i + d + 1 < x.its.length), x.its[i].1 < x.its[i + d + 1].1 := by
    intro d
    induction d with
    | zero => intro i h; exact (one (i + 1) h).2.2.2.2 (by omega)
    | succ d ih =>
      intro i h
      have h1 := ih i (by omega)
      have h2 := (one (i + (d + 1) + 1) h).2.2.2.2 (by omega)
      have h3 : i + (d + 1) + 1 - 1 = i + d + 1 := by omega
      simp only [h3] at h2
      omega
  have g := one j hj
  refine ⟨g.1, g.2.1, g.2.2.1, g.2.2.2.1, fun i hi => ?_⟩
  have := lt (j - i - 1) i (by omega)
  have e : i + (j - i - 1) + 1 = j := by omega
  simpa only [e] using this
theorem its_nodup {x : Iss} (h : issB x = true) : (x.its.map (·.1)).Nodup := by
  unfold List.Nodup
  rw [List.pairwise_map, List.pairwise_iff_getElem]
  intro i j hi hj hij
  have := (its_at h hj).2.2.2.2 i hij
  omega
theorem its_pos {x : Iss} (h : issB x = true) : ∀ y ∈ x.its, 1 ≤ y.2 := fun y hy => by
  obtain ⟨j, hj, rfl⟩ := List.getElem_of_mem hy
  exact (its_at h hj).2.1
theorem ct_need {n : Int} : ∀ {l : List (Int × Int)}, (∀ y ∈ l, 1 ≤ y.2) → (0 < ctL n l ↔ needL n l = true)
  | [], _ => by simp [ctL, needL]
  | y :: l, h => by
    have ih := ct_need (n := n) (l := l) fun z hz => h z (List.mem_cons_of_mem _ hz)
    have hy := h y (List.mem_cons_self ..)
    simp only [ctL, needL, List.any_cons, Bool.or_eq_true, decide_eq_true_eq] at ih ⊢
    split
    · rename_i e; simp [e]; omega
    · rename_i e; simp [e, ih]
theorem need_iff {n : Int} {l : List (Int × Int)} : needL n l = true ↔ ∃ y ∈ l, y.1 = n := by simp [needL]
theorem ct_no {n : Int} : ∀ {l : List (Int × Int)}, n ∉ l.map (·.1) → ctL n l = 0
  | [], _ => rfl
  | y :: l, h => by
    simp only [List.map_cons, List.mem_cons, not_or] at h
    rw [ctL, if_neg (fun e => h.1 e.symm), ct_no h.2]
theorem ct_mem {y : Int × Int} : ∀ {l : List (Int × Int)}, (l.map (·.1)).Nodup → y ∈ l → ctL y.1 l = y.2
  | z :: l, hn, hy => by
    simp only [List.map_cons, List.nodup_cons] at hn
    rcases List.mem_cons.1 hy with rfl | hy
    · rw [ctL, if_pos rfl]
    · rw [ctL, if_neg (fun e => hn.1 (by rw [e]; exact List.mem_map.2 ⟨y, hy, rfl⟩)), ct_mem hn.2 hy]

/-! ### Where a drawing is used. -/
def usN (r : List Iss) (n : Int) (i : Nat) : List (Int × Int) := ((r.take i).filter fun x => needL n x.its).map fun x => (x.d, x.l)
theorem usN_succ {r : List Iss} {n : Int} {i : Nat} (h : i < r.length) : usN r n (i + 1) = if needL n r[i].its = true then usN r n i ++ [(r[i].d, r[i].l)] else usN r n i := by
  rw [usN, List.take_succ_eq_append_getElem h, List.filter_append, List.map_append]
  split
  · rename_i e; simp [usN, List.filter_cons, e]
  · rename_i e; simp [usN, List.filter_cons, e]
theorem usN_len (r : List Iss) (n : Int) (i : Nat) : (usN r n i).length ≤ i := by
  simp only [usN, List.length_map]
  exact Nat.le_trans (List.length_filter_le _ _) (by simp; omega)
def useE (r : List Iss) (n : Int) : List (Int × Int) × Int := if knV r n = 0 then (usN r n r.length, 0) else ([], knV r n)

/-! ### What is above a drawing. -/
inductive Up (T : Int → Iss) (l : List Int) (d : Int) : Int → Prop
  | base (n : Int) (hn : n ∈ l) (h : needL d (T n).its = true) : Up T l d n
  | step (n m : Int) (hn : n ∈ l) (h : needL m (T n).its = true) (hm : Up T l d m) : Up T l d n
theorem Up.trans {T : Int → Iss} {l : List Int} {d m n : Int} (h1 : Up T l d m) (h2 : Up T l m n) : Up T l d n := by
  induction h2 with
  | base n hn h => exact .step n m hn h h1
  | step n k hn h _ ih => exact .step n k hn h ih
theorem Up.mem {T : Int → Iss} {l : List Int} {d n : Int} (h : Up T l d n) : n ∈ l := by cases h <;> assumption

/-- The program's way. -/
def upV (T : Int → Iss) (l : List Int) : Nat → Int → List Int → List Int
  | 0, _, s => s
  | k + 1, d, s => l.foldl (fun s n => if decide (n ∈ s) = false ∧ needL d (T n).its = true then upV T l k n (s ++ [n]) else s) s
theorem upV_sub {T : Int → Iss} {l : List Int} : ∀ (k : Nat) (d : Int) (s : List Int) (x : Int), x ∈ s → x ∈ upV T l k d s
  | 0, _, _, _, h => h
  | k + 1, d, s, x, h => by
    have key : ∀ (l1 s : List Int), x ∈ s → x ∈ l1.foldl (fun s n => if decide (n ∈ s) = false ∧ needL d (T n).its = true then upV T l k n (s ++ [n]) else s) s := by
      intro l1
      induction l1 with
      | nil => intro s h; exact h
      | cons n l1 ih =>
        intro s h
        rw [List.foldl_cons]
        refine ih _ ?_
        split
        · exact upV_sub k n _ x (List.mem_append.2 (.inl h))
        · exact h
    exact key l s h
theorem upV_sound {T : Int → Iss} {l : List Int} : ∀ (k : Nat) (d : Int) (s : List Int) (x : Int), x ∈ upV T l k d s → x ∈ s ∨ Up T l d x
  | 0, _, _, _, h => .inl h
  | k + 1, d, s, x, h => by
    have key : ∀ (l1 s : List Int), (∀ n ∈ l1, n ∈ l) → x ∈ l1.foldl (fun s n => if decide (n ∈ s) = false ∧ needL d (T n).its = true then upV T l k n (s ++ [n]) else s) s → x ∈ s ∨ Up T l d x := by
      intro l1
      induction l1 with
      | nil => intro s _ h; exact .inl h
      | cons n l1 ih =>
        intro s hl h
        rw [List.foldl_cons] at h
        rcases ih _ (fun m hm => hl m (List.mem_cons_of_mem _ hm)) h with h | h
        · split at h
          · rename_i c
            have hn : Up T l d n := .base n (hl n (List.mem_cons_self ..)) c.2
            rcases upV_sound k n _ x h with h | h
            · rcases List.mem_append.1 h with h | h
              · exact .inl h
              · simp only [List.mem_cons, List.not_mem_nil, or_false] at h; subst h; exact .inr hn
            · exact .inr (hn.trans h)
          · exact .inl h
        · exact .inr h
    exact key l s (fun _ h => h) h
/-- How many are left. -/
def leftN (l s : List Int) : Nat := (l.filter fun n => !decide (n ∈ s)).length
theorem leftN_mono {l s s' : List Int} (h : ∀ x ∈ s, x ∈ s') : leftN l s' ≤ leftN l s := by
  unfold leftN
  induction l with
  | nil => exact Nat.le_refl _
  | cons n l ih =>
    have b := h n
    by_cases a : n ∈ s
    · simp only [a, b a, List.filter_cons, decide_true, Bool.not_true, if_false, Bool.false_eq_true]; exact ih
    · by_cases b : n ∈ s' <;> simp [List.filter_cons, a, b] <;> omega
theorem leftN_lt {l s : List Int} {n : Int} (hn : n ∈ l) (hs : n ∉ s) : leftN l (s ++ [n]) < leftN l s := by
  unfold leftN
  induction l with
  | nil => cases hn
  | cons m l ih =>
    have mono := leftN_mono (l := l) (s := s) (s' := s ++ [n]) fun x hx => List.mem_append.2 (.inl hx)
    unfold leftN at mono
    by_cases e : m = n
    · subst e
      rw [List.filter_cons_of_neg (by simp), List.filter_cons_of_pos (by simpa using hs), List.length_cons]; omega
    · have hn := (List.mem_cons.1 hn).resolve_left (fun h => e h.symm)
      have := ih hn
      by_cases a : m ∈ s
      · rw [List.filter_cons_of_neg (by simp [a]), List.filter_cons_of_neg (by simpa using a)]; exact this
      · rw [List.filter_cons_of_pos (by simp [a, e]), List.filter_cons_of_pos (by simpa using a), List.length_cons, List.length_cons]; omega
theorem leftN_le (l s : List Int) : leftN l s ≤ l.length := List.length_filter_le _ _
theorem upV_full {T : Int → Iss} {l : List Int} : ∀ (k : Nat) (d : Int) (s : List Int), leftN l s < k → (∀ n ∈ l, needL d (T n).its = true → n ∈ upV T l k d s) ∧ ∀ m ∈ upV T l k d s, m ∉ s → ∀ n ∈ l, needL m (T n).its = true → n ∈ upV T l k d s
  | 0, _, _, h => by omega
  | k + 1, d, s, h => by
    have key : ∀ (l1 : List Int) (s1 : List Int), (∀ n ∈ l1, n ∈ l) → (∀ x ∈ s, x ∈ s1) → (∀ m ∈ s1, m ∉ s → ∀ n ∈ l, needL m (T n).its = true → n ∈ s1) →
        (∀ n ∈ l1, needL d (T n).its = true → n ∈ l1.foldl (fun s n => if decide (n ∈ s) = false ∧ needL d (T n).its = true then upV T l k n (s ++ [n]) else s) s1) ∧
        (∀ x ∈ s1, x ∈ l1.foldl (fun s n => if decide (n ∈ s) = false ∧ needL d (T n).its = true then upV T l k n (s ++ [n]) else s) s1) ∧
        ∀ m ∈ l1.foldl (fun s n => if decide (n ∈ s) = false ∧ needL d (T n).its = true then upV T l k n (s ++ [n]) else s) s1, m ∉ s → ∀ n ∈ l, needL m (T n).its = true → n ∈ l1.foldl (fun s n => if decide (n ∈ s) = false ∧ needL d (T n).its = true then upV T l k n (s ++ [n]) else s) s1 := by
      intro l1
      induction l1 with
      | nil => intro s1 _ _ hc; exact ⟨by simp, fun x hx => hx, hc⟩
      | cons n l1 ih =>
        intro s1 hl hs hc
        rw [List.foldl_cons]
        have hl' := fun m hm => hl m (List.mem_cons_of_mem _ hm)
        by_cases c : decide (n ∈ s1) = false ∧ needL d (T n).its = true
        · rw [if_pos c]
          have c1 : n ∉ s1 := by simpa using c.1
          have hlt := leftN_lt (hl n (List.mem_cons_self ..)) c1
          have hmo := leftN_mono (l := l) hs
          obtain ⟨f1, f2⟩ := upV_full (T := T) (l := l) k n (s1 ++ [n]) (by omega)
          have sub := upV_sub (T := T) (l := l) k n (s1 ++ [n])
          have hs2 : ∀ x ∈ s, x ∈ upV T l k n (s1 ++ [n]) := fun x hx => sub x (List.mem_append.2 (.inl (hs x hx)))
          have hc2 : ∀ m ∈ upV T l k n (s1 ++ [n]), m ∉ s → ∀ q ∈ l, needL m (T q).its = true → q ∈ upV T l k n (s1 ++ [n]) := fun m hm hms q hq hq2 => by
            by_cases a : m ∈ s1
            · exact sub q (List.mem_append.2 (.inl (hc m a hms q hq hq2)))
            · by_cases b : m = n
              · subst b; exact f1 q hq hq2
              · exact f2 m hm (by simp [a, b]) q hq hq2
          obtain ⟨g1, g2, g3⟩ := ih _ hl' hs2 hc2
          refine ⟨fun m hm hm2 => ?_, fun x hx => g2 x (sub x (List.mem_append.2 (.inl hx))), g3⟩
          rcases List.mem_cons.1 hm with rfl | hm
          · exact g2 _ (sub _ (by simp))
          · exact g1 m hm hm2
        · rw [if_neg c]
          obtain ⟨g1, g2, g3⟩ := ih _ hl' hs hc
          refine ⟨fun m hm hm2 => ?_, g2, g3⟩
          rcases List.mem_cons.1 hm with rfl | hm
          · refine g2 _ ?_
            by_cases a : m ∈ s1
            · exact a
            · exact absurd ⟨by simpa using a, hm2⟩ c
          · exact g1 m hm hm2
    obtain ⟨g1, -, g3⟩ := key l s (fun _ h => h) (fun _ h => h) (fun m hm hms => absurd hm hms)
    exact ⟨g1, g3⟩
theorem upV_iff {T : Int → Iss} {l : List Int} {d x : Int} : x ∈ upV T l (l.length + 1) d [] ↔ Up T l d x := by
  constructor
  · intro h
    rcases upV_sound _ _ _ _ h with h | h
    · cases h
    · exact h
  · intro h
    have hl := leftN_le l []
    obtain ⟨f1, f2⟩ := upV_full (T := T) (l := l) (l.length + 1) d [] (by omega)
    induction h with
    | base n hn h => exact f1 n hn h
    | step n m hn h _ ih => exact f2 m ih (by simp) n hn h

/-- The reference's way. -/
def ovS (T : Int → Iss) (d : Int) (n : Int) (g : Int → Bool) (its : List (Int × Int)) : Int → Bool := its.foldl (fun g y => fun m => if m = n then g n || decide (y.1 = d) || g y.1 else g m) g
def ovR (T : Int → Iss) (d : Int) (l : List Int) (g : Int → Bool) : Int → Bool := l.foldl (fun g n => ovS T d n g (T n).its) g
def ovK (T : Int → Iss) (d : Int) (l : List Int) : Nat → Int → Bool
  | 0 => fun _ => false
  | k + 1 => ovR T d l (ovK T d l k)
theorem ovS_spec {T : Int → Iss} {d n : Int} : ∀ (its : List (Int × Int)) (g : Int → Bool), (∀ m, g m = true → ovS T d n g its m = true) ∧ (∀ m, m ≠ n → ovS T d n g its m = g m) ∧ ((∃ y ∈ its, y.1 = d ∨ g y.1 = true) → ovS T d n g its n = true) ∧ (ovS T d n g its n = true → g n = true ∨ ∃ y ∈ its, y.1 = d ∨ (y.1 ≠ n ∧ g y.1 = true))
  | [], g => ⟨fun _ h => h, fun _ _ => rfl, by simp, fun h => .inl h⟩
  | y :: its, g => by
    obtain ⟨h1, h2, h3, h4⟩ := ovS_spec (T := T) (d := d) (n := n) its fun m => if m = n then g n || decide (y.1 = d) || g y.1 else g m
    have e : ovS T d n g (y :: its) = ovS T d n (fun m => if m = n then g n || decide (y.1 = d) || g y.1 else g m) its := rfl
    rw [e]
    have mono : ∀ m, g m = true → (if m = n then g n || decide (y.1 = d) || g y.1 else g m) = true := fun m hm => by
      split
      · rename_i e; subst e; simp [hm]
      · exact hm
    refine ⟨fun m hm => h1 m (mono m hm), fun m hm => by rw [h2 m hm, if_neg hm], ?_, fun h => ?_⟩
    · rintro ⟨z, hz, hz2⟩
      rcases List.mem_cons.1 hz with rfl | hz
      · refine h1 n ?_
        rw [if_pos rfl]
        rcases hz2 with c | c <;> simp [c]
      · exact h3 ⟨z, hz, hz2.imp id (mono _)⟩
    · rcases h4 h with h | ⟨z, hz, hz2⟩
      · rw [if_pos rfl] at h
        simp only [Bool.or_eq_true, decide_eq_true_eq] at h
        rcases h with (h | h) | h
        · exact .inl h
        · exact .inr ⟨y, List.mem_cons_self .., .inl h⟩
        · by_cases c : y.1 = n
          · rw [c] at h; exact .inl h
          · exact .inr ⟨y, List.mem_cons_self .., .inr ⟨c, h⟩⟩
      · rcases hz2 with c | ⟨c, c2⟩
        · exact .inr ⟨z, List.mem_cons_of_mem _ hz, .inl c⟩
        · rw [if_neg c] at c2
          exact .inr ⟨z, List.mem_cons_of_mem _ hz, .inr ⟨c, c2⟩⟩
theorem ovR_mono {T : Int → Iss} {d : Int} : ∀ (l : List Int) (g : Int → Bool) (m : Int), g m = true → ovR T d l g m = true
  | [], _, _, h => h
  | n :: l, g, m, h => ovR_mono l _ m ((ovS_spec (T := T) (d := d) (n := n) (T n).its g).1 m h)
theorem ovR_full {T : Int → Iss} {d : Int} : ∀ (l : List Int) (g g0 : Int → Bool) (n : Int), (∀ m, g0 m = true → g m = true) → n ∈ l → (∃ y ∈ (T n).its, y.1 = d ∨ g0 y.1 = true) → ovR T d l g n = true
  | p :: l, g, g0, n, hg, hn, h => by
    have e : ovR T d (p :: l) g = ovR T d l (ovS T d p g (T p).its) := rfl
    rw [e]
    have sp := ovS_spec (T := T) (d := d) (n := p) (T p).its g
    by_cases c : n = p
    · subst c
      obtain ⟨y, hy, hy2⟩ := h
      exact ovR_mono l _ n (sp.2.2.1 ⟨y, hy, hy2.imp id (hg _)⟩)
    · exact ovR_full l _ g0 n (fun m hm => sp.1 m (hg m hm)) ((List.mem_cons.1 hn).resolve_left c) h
theorem ovR_sound {T : Int → Iss} {d : Int} {l0 : List Int} : ∀ (l : List Int) (g : Int → Bool), (∀ n ∈ l, n ∈ l0) → (∀ m, g m = true → Up T l0 d m) → ∀ m, ovR T d l g m = true → Up T l0 d m
  | [], g, _, hg, m, h => hg m h
  | p :: l, g, hl, hg, m, h => by
    have e : ovR T d (p :: l) g = ovR T d l (ovS T d p g (T p).its) := rfl
    rw [e] at h
    have sp := ovS_spec (T := T) (d := d) (n := p) (T p).its g
    refine ovR_sound l _ (fun n hn => hl n (List.mem_cons_of_mem _ hn)) (fun q hq => ?_) m h
    by_cases c : q = p
    · subst c
      rcases sp.2.2.2 hq with h | ⟨y, hy, hy2⟩
      · exact hg _ h
      · have hn := hl q (List.mem_cons_self ..)
        rcases hy2 with c | ⟨-, c⟩
        · exact .base q hn (need_iff.2 ⟨y, hy, c⟩)
        · exact .step q y.1 hn (need_iff.2 ⟨y, hy, rfl⟩) (hg _ c)
    · rw [sp.2.1 q c] at hq; exact hg q hq
theorem ovK_sound {T : Int → Iss} {d : Int} {l : List Int} : ∀ (k : Nat) (m : Int), ovK T d l k m = true → Up T l d m
  | 0, m, h => by cases h
  | k + 1, m, h => ovR_sound l _ (fun _ h => h) (ovK_sound k) m h
theorem ovK_full {r : List Iss} {lt : List Int} (ho : openV r = 0) (hlt : ltB r lt = true) {d : Int} : ∀ (k : Nat) (n : Int), Up (tkV r lt) (nums r) d n → dpN r n ≤ k → ovK (tkV r lt) d (nums r) k n = true
  | 0, n, h, hk => (dp_pos ho h.mem hk).elim
  | k + 1, n, h, hk => by
    refine ovR_full (nums r) _ (ovK (tkV r lt) d (nums r) k) n (fun _ h => h) h.mem ?_
    cases h with
    | base _ hn h =>
      obtain ⟨y, hy, e⟩ := need_iff.1 h
      exact ⟨y, hy, .inl e⟩
    | step _ m hn h hm =>
      obtain ⟨y, hy, rfl⟩ := need_iff.1 h
      exact ⟨y, hy, .inr (ovK_full ho hlt k y.1 hm (dp_its ho hlt hn hk hy).2)⟩
theorem dpN_len {r : List Iss} (ho : openV r = 0) {n : Int} (hn : n ∈ nums r) : dpN r n ≤ (nums r).length := by
  have hL := open_listed ho
  have h0 := left_none ho
  obtain ⟨h1, h2⟩ := dp_Dv hL h0 hn
  have hd := DInv.run r (nums r).length
  have hb := hd.bd _ h1
  have hl := hd.len
  simp only at hb
  unfold dpN
  rw [h2]
  omega
theorem over_up {r : List Iss} {lt : List Int} (ho : openV r = 0) (hlt : ltB r lt = true) (d : Int) {n : Int} (hn : n ∈ nums r) : ovK (tkV r lt) d (nums r) (nums r).length n = decide (n ∈ upV (tkV r lt) (nums r) ((nums r).length + 1) d []) := by
  rw [Bool.eq_iff_iff, decide_eq_true_eq, upV_iff]
  exact ⟨ovK_sound _ _, fun h => ovK_full ho hlt _ _ h (dpN_len ho hn)⟩
def abV (r : List Iss) (lt : List Int) (d : Int) : List Int := (nums r).filter fun n => decide (n ∈ upV (tkV r lt) (nums r) ((nums r).length + 1) d [])
theorem over_eq {r : List Iss} {lt : List Int} (ho : openV r = 0) (hlt : ltB r lt = true) (d : Int) : (nums r).filter (fun n => ovK (tkV r lt) d (nums r) (nums r).length n) = abV r lt d :=
  List.filter_congr fun n hn => over_up ho hlt d hn
def abE (r : List Iss) (lt : List Int) (d : Int) : List Int × Int := if askV r lt d = 0 then (abV r lt d, 0) else ([], askV r lt d)
end Go.Proofs.YtdpmioiamcgfkaaDoor

/-! Where drawings are used, and what is above them: what the reference's functions compute. -/
namespace Go.Proofs.YtdpmioiamcgfkaaDoor
open Go.RowKit

/-- A row of truth values, by the drawings. -/
def rowB (l : List Int) (g : Int → Bool) : List (List AV) := l.map fun n => [.bool (g n)]
theorem rowB_set {l : List Int} (hn : l.Nodup) {g : Int → Bool} {j : Nat} {d : Int} {v : Bool} (hj : l[j]? = some d) : (rowB l g).set j [.bool v] = rowB l fun n => if n = d then v else g n := by
  apply List.ext_getElem?
  intro i
  obtain ⟨hlt, he⟩ := List.getElem?_eq_some_iff.1 hj
  simp only [rowB, List.getElem?_set, List.getElem?_map, List.length_map]
  by_cases e : j = i
  · subst e
    simp [hlt, he]
  · rw [if_neg e]
    cases hi : l[i]? with
    | none => rfl
    | some x =>
      obtain ⟨hlt2, he2⟩ := List.getElem?_eq_some_iff.1 hi
      have : x ≠ d := fun q => e ((List.getElem_inj hn).1 (by rw [he, he2, q]))
      simp [this]
theorem rowB_len {l : List Int} {g : Int → Bool} : (rowB l g).length = l.length := by simp [rowB]
theorem rowB_at {l : List Int} {g : Int → Bool} {j : Nat} (h : j < (rowB l g).length) : (rowB l g)[j] = [.bool (g (l[j]'(by simpa [rowB] using h)))] := by simp [rowB]
theorem rowB_rep {l : List Int} : List.replicate l.length [AV.bool false] = rowB l fun _ => false := by
  simp only [rowB]; induction l with
  | nil => rfl
  | cons x l ih => simp [List.replicate_succ, ih]
theorem kept_rowB (o : List (Nat × AObj)) (l : List Int) (g : Int → Bool) : keptO o (.row 1 (rowB l g)) = true := by
  simp only [keptO, List.all_eq_true, rowB, List.mem_map]
  rintro x ⟨y, -, rfl⟩ v hv
  simp only [List.mem_cons, List.not_mem_nil, or_false] at hv
  subst hv; simp [keptA, AV.keys]
theorem ia_kept (l : List Int) (o : List (Nat × AObj)) : keptO o (.row 1 (l.map ia)) = true := by
  simp only [keptO, List.all_eq_true, List.mem_map]
  rintro x ⟨y, -, rfl⟩ v hv
  simp only [ia, List.mem_cons, List.not_mem_nil, or_false] at hv
  subst hv; simp [keptA, AV.keys]
/-- A filtered list, in its making. -/
def flN (l : List Int) (g : Int → Bool) (i : Nat) : List Int := (l.take i).filter g
theorem flN_succ {l : List Int} {g : Int → Bool} {i : Nat} (h : i < l.length) : flN l g (i + 1) = if g l[i] = true then flN l g i ++ [l[i]] else flN l g i := by
  rw [flN, List.take_succ_eq_append_getElem h, List.filter_append]
  split
  · rename_i e; simp [flN, List.filter_cons, e]
  · rename_i e; simp [flN, List.filter_cons, e]
theorem flN_len (l : List Int) (g : Int → Bool) (i : Nat) : (flN l g i).length ≤ i := Nat.le_trans (List.length_filter_le _ _) (by simp; omega)
/-- The states of the last loop, and of the loop over all issues. -/
def ovE (l : List Int) (g : Int → Bool) (i : Nat) : St := if flN l g i = [] then ⟨[(14, .int .i64 i), (13, .nils), (8, .osl 19 l.length), (7, .vsl (l.map ia))], [(19, .row 1 (rowB l g))]⟩
  else ⟨[(14, .int .i64 i), (13, .osl 92 (flN l g i).length), (8, .osl 19 l.length), (7, .vsl (l.map ia))], [(19, .row 1 (rowB l g)), (92, .row 1 ((flN l g i).map ia))]⟩
def usS (r : List Iss) (n : Int) (i : Nat) : St := if usN r n i = [] then ⟨[(8, .int .i64 i), (7, .nils), (1, .int .i64 n), (2, .ptr 2 0)], [(2, .box [.vsl (r.map isa)])]⟩
  else ⟨[(8, .int .i64 i), (7, .osl 43 (usN r n i).length), (1, .int .i64 n), (2, .ptr 2 0)], [(2, .box [.vsl (r.map isa)]), (43, .row 2 ((usN r n i).map ita))]⟩

section
variable {G : Nat → Option (List AV)}

theorem countOf_pc (x : Iss) (n : Int) (h : Sml x.its) : PC Tryd.prog G 60 [.agg (isa x), .int .i64 n] (.int .i64 (ctL n x.its)) := by
  (refine pc_ref02_CountOf (Nat.le_of_ble_eq_true rfl) fun R hG hrd => GO_AR mixed 1000 ?_; subst hG)
  unfold Sml at h
  simp -implicitDefEqProofs [rc_ref02_CountOf, rr_ref02_CountOf, isa]
  refine AR_for (fun i => ⟨[(5, .int .i64 i), (2, .ptr 2 0), (1, .int .i64 n)], [(2, .box (isa x))]⟩) (fun i => ctL n (x.its.drop i) = ctL n x.its) x.its.length (by (first | exact Weak.tm (by simp [lk, isa]) | exact Weak.sub (by simp [lk, keptA, AV.keys, isa]) (by simp [lk, keptO, keptA, AV.keys, isa]))) rfl ?_ ?_
  · intro i hi he
    refine GO_AR mixed 1000 ?_
    have w1 : IntKind.i64.wrap ((i : Int) + 1) = ((i + 1 : Nat) : Int) := wrapI (by omega) (by omega)
    rw [List.drop_eq_getElem_cons hi, ctL] at he
    by_cases e : x.its[i].1 = n
    · rw [if_pos e] at he
      simp -implicitDefEqProofs [hi, isa, ita, e]
      refine GO_ret mixed 1000 ?_
      have he2 := he.symm
      simp -implicitDefEqProofs [he2]
    · rw [if_neg e] at he
      simp -implicitDefEqProofs [hi, isa, ita, e, w1]
      exact ⟨(by (first | exact Weak.tm (by simp [lk, isa]) | exact Weak.sub (by simp [lk, keptA, AV.keys, isa]) (by simp [lk, keptO, keptA, AV.keys, isa]))), he⟩
  · intro he
    refine GO_AR mixed 1000 ?_
    rw [List.drop_length, ctL] at he
    have he2 := he.symm
    simp -implicitDefEqProofs [isa]
    refine GO_ret mixed 1000 ?_
    simp -implicitDefEqProofs [he2]

theorem sameRefs_pc (a b : List (Int × Int)) (ha : Sml a) : PC Tryd.prog G 43 [.vsl (a.map ita), .vsl (b.map ita)] (.bool (decide (a = b))) := by
  (refine pc_ref02_SameRefs (Nat.le_of_ble_eq_true rfl) fun R hG hrd => GO_AR mixed 1000 ?_; subst hG)
  by_cases hl : a.length = b.length
  · have hl' : (a.length : Int) = b.length := by omega
    simp -implicitDefEqProofs [rc_ref02_SameRefs, rr_ref02_SameRefs, hl']
    refine AR_for (fun i => ⟨[(5, .int .i64 i), (0, .vsl (a.map ita)), (1, .vsl (b.map ita))], []⟩) (fun i => ∀ j (h : j < a.length), j < i → a[j] = b[j]) a.length (by (first | exact Weak.tm (by simp [lk]) | exact Weak.sub (by simp [lk, keptA, AV.keys]) (by simp [lk, keptO, keptA, AV.keys]))) (by simp) ?_ ?_
    · intro i hi he
      refine GO_AR mixed 1000 ?_
      unfold Sml at ha
      have hi2 : i < b.length := by omega
      have w1 : IntKind.i64.wrap ((i : Int) + 1) = ((i + 1 : Nat) : Int) := wrapI (by omega) (by omega)
      simp -implicitDefEqProofs [hi, hi2, ita]
      refine ⟨rfl, ?_⟩
      by_cases h2 : a[i] = b[i]
      · simp -implicitDefEqProofs [h2, w1]
        refine ⟨(by (first | exact Weak.tm (by simp [lk]) | exact Weak.sub (by simp [lk, keptA, AV.keys]) (by simp [lk, keptO, keptA, AV.keys]))), fun j h1 h3 => ?_⟩
        by_cases e : j = i
        · subst e; exact h2
        · exact he j h1 (by omega)
      · have h3 : ¬ a = b := fun e => h2 (by subst e; rfl)
        rw [pair_ne h2]
        simp -implicitDefEqProofs []
        refine GO_ret mixed 1000 ?_
        simp -implicitDefEqProofs [h3]
    · intro he
      refine GO_AR mixed 1000 ?_
      have h3 : a = b := List.ext_getElem hl fun j h1 h2 => he j h1 h1
      simp -implicitDefEqProofs []
      refine GO_ret mixed 1000 ?_
      simp -implicitDefEqProofs [h3]
  · have hl' : ¬ (a.length : Int) = b.length := by omega
    have h3 : ¬ a = b := fun e => hl (by rw [e])
    simp -implicitDefEqProofs [rc_ref02_SameRefs, rr_ref02_SameRefs, hl', h3]

theorem sameChg_pc (a b : List Dm) (ha : Sml a) : PC Tryd.prog G 46 [.vsl (a.map dma), .vsl (b.map dma)] (.bool (decide (a = b))) := by
  (refine pc_ref02_SameChanges (Nat.le_of_ble_eq_true rfl) fun R hG hrd => GO_AR mixed 1000 ?_; subst hG)
  by_cases hl : a.length = b.length
  · have hl' : (a.length : Int) = b.length := by omega
    simp -implicitDefEqProofs [rc_ref02_SameChanges, rr_ref02_SameChanges, hl']
    refine AR_for (fun i => ⟨[(5, .int .i64 i), (0, .vsl (a.map dma)), (1, .vsl (b.map dma))], []⟩) (fun i => ∀ j (h : j < a.length), j < i → a[j] = b[j]) a.length (by (first | exact Weak.tm (by simp [lk]) | exact Weak.sub (by simp [lk, keptA, AV.keys]) (by simp [lk, keptO, keptA, AV.keys]))) (by simp) ?_ ?_
    · intro i hi he
      refine GO_AR mixed 1000 ?_
      unfold Sml at ha
      have hi2 : i < b.length := by omega
      have w1 : IntKind.i64.wrap ((i : Int) + 1) = ((i + 1 : Nat) : Int) := wrapI (by omega) (by omega)
      simp -implicitDefEqProofs [hi, hi2, dma]
      refine ⟨rfl, ?_⟩
      by_cases h2 : a[i] = b[i]
      · simp -implicitDefEqProofs [h2, w1]
        refine ⟨(by (first | exact Weak.tm (by simp [lk]) | exact Weak.sub (by simp [lk, keptA, AV.keys]) (by simp [lk, keptO, keptA, AV.keys]))), fun j h1 h3 => ?_⟩
        by_cases e : j = i
        · subst e; exact h2
        · exact he j h1 (by omega)
      · have h3 : ¬ a = b := fun e => h2 (by subst e; rfl)
        rw [dm_ne h2]
        simp -implicitDefEqProofs []
        refine GO_ret mixed 1000 ?_
        simp -implicitDefEqProofs [h3]
    · intro he
      refine GO_AR mixed 1000 ?_
      have h3 : a = b := List.ext_getElem hl fun j h1 h2 => he j h1 h1
      simp -implicitDefEqProofs []
      refine GO_ret mixed 1000 ?_
      simp -implicitDefEqProofs [h3]
  · have hl' : ¬ (a.length : Int) = b.length := by omega
    have h3 : ¬ a = b := fun e => hl (by rw [e])
    simp -implicitDefEqProofs [rc_ref02_SameChanges, rr_ref02_SameChanges, hl', h3]

theorem kn_0 {r : List Iss} {n : Int} (h : knV r n = 0) : openV r = 0 ∧ n ∈ nums r := by
  unfold knV at h
  split at h
  · rename_i e
    split at h
    · rename_i e2; exact ⟨e, e2⟩
    · cases h
  · rename_i e; exact absurd h e

theorem usesR_pc (r : List Iss) (n : Int) (h : Wf r) : PC Tryd.prog G 40 [rega r, .int .i64 n] (.tup [.vsl ((useE r n).1.map ita), .int .i64 (useE r n).2]) := by
  by_cases e : openV r = 0
  case neg =>
    have k : knV r n = openV r := by simp [knV, e]
    refine PC.nzR (v := .tup [.nils, .int .i64 (openV r)]) ?_ (by simp [nz, useE, k, e])
    (refine pc_ref02_Uses (Nat.le_of_ble_eq_true rfl) fun R hG hrd => GO_AR mixed 1000 ?_; subst hG)
    simp -implicitDefEqProofs [rc_ref02_Uses, rr_ref02_Uses, rega]
    (first | refine CallK.of (checkR_pc r h) (by simp) ?_ | refine CallD.of (checkR_pc r h) (by simp) ?_)
    rw [← open_chk]
    simp -implicitDefEqProofs [e]
  have hL := open_listed e
  have hne : r ≠ [] := by have := listed_60 hL; intro e; subst e; simp at this
  have hs := h.1.1
  unfold Sml at hs
  by_cases c : n ∈ nums r
  case neg =>
    have k : knV r n = 6 := by simp [knV, e, c]
    refine PC.nzR (v := .tup [.nils, .int .i64 6]) ?_ (by simp [nz, useE, k])
    (refine pc_ref02_Uses (Nat.le_of_ble_eq_true rfl) fun R hG hrd => GO_AR mixed 1000 ?_; subst hG)
    simp -implicitDefEqProofs [rc_ref02_Uses, rr_ref02_Uses, rega]
    (first | refine CallK.of (checkR_pc r h) (by simp) ?_ | refine CallD.of (checkR_pc r h) (by simp) ?_)
    rw [← open_chk]
    simp -implicitDefEqProofs [e]
    (first | refine CallK.of (numbers_pc r h.1.1 hne) (by simp) ?_ | refine CallD.of (numbers_pc r h.1.1 hne) (by simp) ?_)
    simp -implicitDefEqProofs []
    (first | refine CallK.of (index_pc (nums r) n (nums_sml h.1.1)) (by simp) ?_ | refine CallD.of (index_pc (nums r) n (nums_sml h.1.1)) (by simp) ?_)
    simp -implicitDefEqProofs [idx_neg.2 c]
  have k : knV r n = 0 := by simp [knV, e, c]
  have c2 : ¬ idx (nums r) n < 0 := fun hh => (idx_neg.1 hh) c
  have ev : useE r n = (usN r n r.length, 0) := by simp [useE, k]
  rw [ev]
  refine PC.nzR (v := .tup [if usN r n r.length = [] then .nils else .vsl ((usN r n r.length).map ita), .int .i64 0]) ?_ (by split <;> simp_all [nz])
  (refine pc_ref02_Uses (Nat.le_of_ble_eq_true rfl) fun R hG hrd => GO_AR mixed 1000 ?_; subst hG)
  simp -implicitDefEqProofs [rc_ref02_Uses, rr_ref02_Uses, rega]
  (first | refine CallK.of (checkR_pc r h) (by simp) ?_ | refine CallD.of (checkR_pc r h) (by simp) ?_)
  rw [← open_chk]
  simp -implicitDefEqProofs [e]
  (first | refine CallK.of (numbers_pc r h.1.1 hne) (by simp) ?_ | refine CallD.of (numbers_pc r h.1.1 hne) (by simp) ?_)
  simp -implicitDefEqProofs []
  (first | refine CallK.of (index_pc (nums r) n (nums_sml h.1.1)) (by simp) ?_ | refine CallD.of (index_pc (nums r) n (nums_sml h.1.1)) (by simp) ?_)
  simp -implicitDefEqProofs [c2]
  refine AR_for (usS r n) (fun _ => True) r.length ?_ trivial ?_ ?_
  · have e0 : usN r n 0 = [] := rfl
    simp only [usS, e0, if_true]
    (first | exact Weak.tm (by simp [lk]) | exact Weak.sub (by simp [lk, keptA, AV.keys]) (by simp [lk, keptO, keptA, AV.keys]))
  · intro i hi _
    refine GO_AR mixed 1000 ?_
    have w1 : IntKind.i64.wrap ((i : Int) + 1) = ((i + 1 : Nat) : Int) := wrapI (by omega) (by omega)
    have hx := h.1.2 r[i] (List.getElem_mem hi)
    have hs := usN_succ (n := n) hi
    have bl := usN_len r n i
    have bb : ((usN r n i).length + 1) * 16 ≤ 70368744177664 := by omega
    have cn := ct_need (n := n) (its_pos (listed_iss hL (List.getElem_mem hi)))
    cases q : needL n r[i].its
    · have q2 : ¬ 0 < ctL n r[i].its := fun h => by rw [cn.1 h] at q; cases q
      rw [if_neg (by simp [q])] at hs
      by_cases z : usN r n i = []
      · rw [z] at hs
        simp -implicitDefEqProofs [usS, z, hi, isa]
        (first | refine CallK.of (countOf_pc r[i] n hx.1) (by simp) ?_ | refine CallD.of (countOf_pc r[i] n hx.1) (by simp) ?_)
        simp -implicitDefEqProofs [usS, q2, w1, hs]
        ((try simp only [ita]); refine Weak.sub (by simp [lk, keptA, AV.keys, ita]) ?_; simp only [ita, List.cons_append, List.nil_append, List.mem_cons, List.not_mem_nil, or_false, forall_eq_or_imp, forall_eq, ita_kept, and_true]; (try simp [lk, keptO, keptA, AV.keys, ita]))
      · simp -implicitDefEqProofs [usS, z, hi, isa]
        (first | refine CallK.of (countOf_pc r[i] n hx.1) (by simp) ?_ | refine CallD.of (countOf_pc r[i] n hx.1) (by simp) ?_)
        simp -implicitDefEqProofs [usS, q2, w1, hs, z]
        ((try simp only [ita]); refine Weak.sub (by simp [lk, keptA, AV.keys, ita]) ?_; simp only [ita, List.cons_append, List.nil_append, List.mem_cons, List.not_mem_nil, or_false, forall_eq_or_imp, forall_eq, ita_kept, and_true]; (try simp [lk, keptO, keptA, AV.keys, ita]))
    · have q2 := cn.2 q
      rw [if_pos q] at hs
      by_cases z : usN r n i = []
      · rw [z] at hs
        simp -implicitDefEqProofs [usS, z, hi, isa]
        (first | refine CallK.of (countOf_pc r[i] n hx.1) (by simp) ?_ | refine CallD.of (countOf_pc r[i] n hx.1) (by simp) ?_)
        simp -implicitDefEqProofs [usS, q2, w1, hs]
        ((try simp only [ita]); refine Weak.sub (by simp [lk, keptA, AV.keys, ita]) ?_; simp only [ita, List.cons_append, List.nil_append, List.mem_cons, List.not_mem_nil, or_false, forall_eq_or_imp, forall_eq, ita_kept, and_true]; (try simp [lk, keptO, keptA, AV.keys, ita]))
      · simp -implicitDefEqProofs [usS, z, hi, isa]
        (first | refine CallK.of (countOf_pc r[i] n hx.1) (by simp) ?_ | refine CallD.of (countOf_pc r[i] n hx.1) (by simp) ?_)
        simp -implicitDefEqProofs [usS, q2, w1, hs, z, bb]
        ((try simp only [ita]); refine Weak.sub (by simp [lk, keptA, AV.keys, ita]) ?_; simp only [ita, List.cons_append, List.nil_append, List.mem_cons, List.not_mem_nil, or_false, forall_eq_or_imp, forall_eq, ita_kept, and_true]; (try simp [lk, keptO, keptA, AV.keys, ita]))
  · intro _
    refine GO_AR mixed 1000 ?_
    by_cases z : usN r n r.length = []
    · simp -implicitDefEqProofs [usS, z]
      refine GO_ret mixed 1000 ?_
      simp -implicitDefEqProofs [z]
    · have pu : ((usN r n r.length).map ita).all (fun r => r.all AV.pure) = true := by simp [ita, AV.pure]
      simp -implicitDefEqProofs [usS, z]
      refine GO_ret mixed 1000 ?_
      simp -implicitDefEqProofs [z, pu]
end
end Go.Proofs.YtdpmioiamcgfkaaDoor

/-! How two issues differ: plain functions; what the reference's Differ computes. -/
namespace Go.Proofs.YtdpmioiamcgfkaaDoor
open Go.RowKit

/-- The changes of items, in their making. -/
def dfN (l : List Int) (f g : Int → Int) (i : Nat) : List Dm := ((l.take i).filter fun n => !decide (f n = g n)).map fun n => ⟨n, f n, g n⟩
theorem dfN_succ {l : List Int} {f g : Int → Int} {i : Nat} (h : i < l.length) : dfN l f g (i + 1) = if f l[i] = g l[i] then dfN l f g i else dfN l f g i ++ [⟨l[i], f l[i], g l[i]⟩] := by
  rw [dfN, List.take_succ_eq_append_getElem h, List.filter_append, List.map_append]
  split
  · rename_i e; simp [dfN, List.filter_cons, e]
  · rename_i e; simp [dfN, List.filter_cons, e]
theorem dfN_len (l : List Int) (f g : Int → Int) (i : Nat) : (dfN l f g i).length ≤ i := by
  simp only [dfN, List.length_map]
  exact Nat.le_trans (List.length_filter_le _ _) (by simp; omega)
/-- Whether sizes differ at a place; all places where they do. -/
def dsB (a b : List Dm) (j : Nat) : Bool := decide (a.length ≤ j) || decide (b.length ≤ j) || !decide (a.getD j Dm.zero = b.getD j Dm.zero)
def dsN (a b : List Dm) (i : Nat) : List Int := ((List.range i).filter (dsB a b)).map fun (j : Nat) => (j : Int)
theorem dsN_succ {a b : List Dm} {i : Nat} : dsN a b (i + 1) = if dsB a b i = true then dsN a b i ++ [(i : Int)] else dsN a b i := by
  rw [dsN, List.range_succ, List.filter_append, List.map_append]
  split
  · rename_i e; simp [dsN, List.filter_cons, e]
  · rename_i e; simp [dsN, List.filter_cons, e]
theorem dsN_len (a b : List Dm) (i : Nat) : (dsN a b i).length ≤ i := by
  simp only [dsN, List.length_map]
  exact Nat.le_trans (List.length_filter_le _ _) (by simp)
theorem dsB_at {a b : List Dm} {j : Nat} (ha : j < a.length) (hb : j < b.length) : dsB a b j = !decide (a[j] = b[j]) := by
  have h1 : ¬ a.length ≤ j := by omega
  have h2 : ¬ b.length ≤ j := by omega
  simp [dsB, h1, h2, List.getD, ha, hb]
def difE (r : List Iss) (d n m : Int) : List Dm × List Int × Int := if openV r = 0 then match findN d n r, findN d m r with
    | some a, some b => (dfN (nums r) (fun n => ctL n a.its) (fun n => ctL n b.its) (nums r).length, dsN a.dms b.dms (max a.dms.length b.dms.length), 0)
    | _, _ => ([], [], 6)
  else ([], [], openV r)
/-- A list that may be nil. -/
def orNil (l : List (List AV)) : AV := if l = [] then .nils else .vsl l
theorem nz_orNil (l : List (List AV)) : nz (orNil l) = .vsl l := by unfold orNil; split <;> simp_all [nz]
theorem orNil_pure {l : List (List AV)} (h : l.all (fun r => r.all AV.pure) = true) : (orNil l).pure = true := by
  unfold orNil; split
  · simp [AV.pure]
  · simp [AV.pure]
theorem orNil_keys (l : List (List AV)) : (orNil l).keys = [] := by unfold orNil; split <;> simp [AV.keys]
theorem orNil_snap (l : List (List AV)) (ok : Nat → Bool) (st : St) (n : Nat) : snapF ok st n (orNil l) = some (orNil l) := by unfold orNil; split <;> cases n <;> simp [snapF, AV.pure]
theorem dma_all (l : List Dm) : (l.map dma).all (fun r => r.all AV.pure) = true := by simp [dma, AV.pure]
theorem ia_all (l : List Int) : (l.map ia).all (fun r => r.all AV.pure) = true := by simp [ia, AV.pure]
theorem dma_kept (l : List Dm) (o : List (Nat × AObj)) : keptO o (.row 3 (l.map dma)) = true := by
  simp only [keptO, List.all_eq_true, List.mem_map]
  rintro x ⟨y, -, rfl⟩ v hv
  simp only [dma, List.mem_cons, List.not_mem_nil, or_false] at hv
  rcases hv with rfl | rfl | rfl <;> simp [keptA, AV.keys]

/-- The states of the reference's loops. -/
def dcS (l : List Int) (a b : Iss) (i : Nat) : St := if dfN l (fun n => ctL n a.its) (fun n => ctL n b.its) i = [] then ⟨[(18, .int .i64 i), (16, .nils), (17, .vsl (l.map ia)), (12, .ptr 12 0), (14, .ptr 14 0)], [(12, .box (isa a)), (14, .box (isa b))]⟩
  else ⟨[(18, .int .i64 i), (16, .osl 82 (dfN l (fun n => ctL n a.its) (fun n => ctL n b.its) i).length), (17, .vsl (l.map ia)), (12, .ptr 12 0), (14, .ptr 14 0)], [(12, .box (isa a)), (14, .box (isa b)), (82, .row 3 ((dfN l (fun n => ctL n a.its) (fun n => ctL n b.its) i).map dma))]⟩
def ddS (c : AV) (a b : Iss) (i : Nat) : St := if dsN a.dms b.dms i = [] then ⟨[(22, .int .i64 i), (21, .nils), (16, c), (12, .ptr 12 0), (14, .ptr 14 0)], [(12, .box (isa a)), (14, .box (isa b))]⟩
  else ⟨[(22, .int .i64 i), (21, .osl 125 (dsN a.dms b.dms i).length), (16, c), (12, .ptr 12 0), (14, .ptr 14 0)], [(12, .box (isa a)), (14, .box (isa b)), (125, .row 1 ((dsN a.dms b.dms i).map ia))]⟩

/-- Parts of code: what stands behind some parts; the first part; the loop that stands last. -/
def dropS : Nat → RCode → RCode
  | n + 1, .seq _ b => dropS n b
  | _, c => c
def headS : RCode → RCode
  | .seq a _ => a
  | c => c
def endLp : RCode → RCode
  | .seq _ b => endLp b
  | .block _ b => b
  | c => c
section
variable {G : Nat → Option (List AV)}

set_option maxRecDepth 4000 in
set_option maxHeartbeats 2000000 in
theorem differR_pc (r : List Iss) (d n m : Int) (h : Wf r) : PC Tryd.prog G 45 [rega r, .int .i64 d, .int .i64 n, .int .i64 m] (.tup [.vsl ((difE r d n m).1.map dma), .vsl ((difE r d n m).2.1.map ia), .int .i64 (difE r d n m).2.2]) := by
  by_cases e : openV r = 0
  case neg =>
    refine PC.nzR (v := .tup [.nils, .nils, .int .i64 (openV r)]) ?_ (by simp [nz, difE, e])
    (refine pc_ref02_Differ (Nat.le_of_ble_eq_true rfl) fun R hG hrd => GO_AR mixed 1000 ?_; subst hG)
    simp -implicitDefEqProofs [rc_ref02_Differ, rr_ref02_Differ, rega]
    (first | refine CallK.of (checkR_pc r h) (by simp) ?_ | refine CallD.of (checkR_pc r h) (by simp) ?_)
    rw [← open_chk]
    simp -implicitDefEqProofs [e]
  have hL := open_listed e
  have hne : r ≠ [] := by have := listed_60 hL; intro e; subst e; simp at this
  have hl := listed_20 hL
  cases fa : findN d n r with
  | none =>
    have ev : difE r d n m = ([], [], 6) := by simp [difE, e, fa]
    refine PC.nzR (v := .tup [.nils, .nils, .int .i64 6]) ?_ (by simp [nz, ev])
    (refine pc_ref02_Differ (Nat.le_of_ble_eq_true rfl) fun R hG hrd => GO_AR mixed 1000 ?_; subst hG)
    simp -implicitDefEqProofs [rc_ref02_Differ, rr_ref02_Differ, rega]
    (first | refine CallK.of (checkR_pc r h) (by simp) ?_ | refine CallD.of (checkR_pc r h) (by simp) ?_)
    rw [← open_chk]
    simp -implicitDefEqProofs [e]
    (first | refine CallK.of (find_pc r d n h.1.1) (by simp) ?_ | refine CallD.of (find_pc r d n h.1.1) (by simp) ?_)
    simp -implicitDefEqProofs [fa, fndA, noIs]
    (first | refine CallK.of (find_pc r d m h.1.1) (by simp) ?_ | refine CallD.of (find_pc r d m h.1.1) (by simp) ?_)
    cases fb : findN d m r <;> simp -implicitDefEqProofs [fb, fndA, noIs, isa]
  | some a =>
  cases fb : findN d m r with
  | none =>
    have ev : difE r d n m = ([], [], 6) := by simp [difE, e, fa, fb]
    refine PC.nzR (v := .tup [.nils, .nils, .int .i64 6]) ?_ (by simp [nz, ev])
    (refine pc_ref02_Differ (Nat.le_of_ble_eq_true rfl) fun R hG hrd => GO_AR mixed 1000 ?_; subst hG)
    simp -implicitDefEqProofs [rc_ref02_Differ, rr_ref02_Differ, rega]
    (first | refine CallK.of (checkR_pc r h) (by simp) ?_ | refine CallD.of (checkR_pc r h) (by simp) ?_)
    rw [← open_chk]
    simp -implicitDefEqProofs [e]
    (first | refine CallK.of (find_pc r d n h.1.1) (by simp) ?_ | refine CallD.of (find_pc r d n h.1.1) (by simp) ?_)
    simp -implicitDefEqProofs [fa, fndA, isa]
    (first | refine CallK.of (find_pc r d m h.1.1) (by simp) ?_ | refine CallD.of (find_pc r d m h.1.1) (by simp) ?_)
    simp -implicitDefEqProofs [fb, fndA, noIs]
  | some b =>
  have ha := h.1.2 a (findN_mem fa).1
  have hb := h.1.2 b (findN_mem fb).1
  have ev : difE r d n m = (dfN (nums r) (fun n => ctL n a.its) (fun n => ctL n b.its) (nums r).length, dsN a.dms b.dms (max a.dms.length b.dms.length), 0) := by simp [difE, e, fa, fb]
  rw [ev]
  refine PC.nzR (v := .tup [orNil ((dfN (nums r) (fun n => ctL n a.its) (fun n => ctL n b.its) (nums r).length).map dma), orNil ((dsN a.dms b.dms (max a.dms.length b.dms.length)).map ia), .int .i64 0]) ?_ (by simp only [nz_tup, List.map_cons, List.map_nil, nz_orNil]; simp [nz])
  (refine pc_ref02_Differ (Nat.le_of_ble_eq_true rfl) fun R hG hrd => GO_AR mixed 1000 ?_; subst hG)
  simp -implicitDefEqProofs [rc_ref02_Differ, rr_ref02_Differ, rega]
  (first | refine CallK.of (checkR_pc r h) (by simp) ?_ | refine CallD.of (checkR_pc r h) (by simp) ?_)
  rw [← open_chk]
  simp -implicitDefEqProofs [e]
  (first | refine CallK.of (find_pc r d n h.1.1) (by simp) ?_ | refine CallD.of (find_pc r d n h.1.1) (by simp) ?_)
  simp -implicitDefEqProofs [fa, fndA, isa]
  (first | refine CallK.of (find_pc r d m h.1.1) (by simp) ?_ | refine CallD.of (find_pc r d m h.1.1) (by simp) ?_)
  simp -implicitDefEqProofs [fb, fndA, isa]
  (first | refine CallK.of (numbers_pc r h.1.1 hne) (by simp) ?_ | refine CallD.of (numbers_pc r h.1.1 hne) (by simp) ?_)
  simp -implicitDefEqProofs []
  refine AR_for (dcS (nums r) a b) (fun _ => True) (nums r).length ?_ trivial ?_ ?_
  · have e0 : dfN (nums r) (fun n => ctL n a.its) (fun n => ctL n b.its) 0 = [] := rfl
    simp only [dcS, e0, if_true]
    (first | exact Weak.tm (by simp [lk, isa]) | exact Weak.sub (by simp [lk, keptA, AV.keys, isa]) (by simp [lk, keptO, keptA, AV.keys, isa]))
  · intro i hi _
    refine GO_AR mixed 1000 ?_
    have w1 : IntKind.i64.wrap ((i : Int) + 1) = ((i + 1 : Nat) : Int) := wrapI (by omega) (by omega)
    have hs := dfN_succ (f := fun n => ctL n a.its) (g := fun n => ctL n b.its) hi
    have bl := dfN_len (nums r) (fun n => ctL n a.its) (fun n => ctL n b.its) i
    have bb : ((dfN (nums r) (fun n => ctL n a.its) (fun n => ctL n b.its) i).length + 1) * 24 ≤ 70368744177664 := by omega
    by_cases q : ctL (nums r)[i] a.its = ctL (nums r)[i] b.its
    · rw [if_pos q] at hs
      by_cases z : dfN (nums r) (fun n => ctL n a.its) (fun n => ctL n b.its) i = []
      · rw [z] at hs
        simp -implicitDefEqProofs [dcS, z, hi, ia, isa]
        (first | refine CallK.of (countOf_pc a (nums r)[i] ha.1) (by simp) ?_ | refine CallD.of (countOf_pc a (nums r)[i] ha.1) (by simp) ?_)
        simp -implicitDefEqProofs [isa, hi, ia]
        (first | refine CallK.of (countOf_pc b (nums r)[i] hb.1) (by simp) ?_ | refine CallD.of (countOf_pc b (nums r)[i] hb.1) (by simp) ?_)
        simp -implicitDefEqProofs [q, w1]
        refine ⟨rfl, ?_⟩
        simp only [dcS, hs, if_true]
        ((try simp only [isa]); refine Weak.sub (by simp [lk, keptA, AV.keys, isa]) ?_; simp only [isa, List.cons_append, List.nil_append, List.mem_cons, List.not_mem_nil, or_false, forall_eq_or_imp, forall_eq, dma_kept, and_true]; (try simp [lk, keptO, keptA, AV.keys, isa]))
      · simp -implicitDefEqProofs [dcS, z, hi, ia, isa]
        (first | refine CallK.of (countOf_pc a (nums r)[i] ha.1) (by simp) ?_ | refine CallD.of (countOf_pc a (nums r)[i] ha.1) (by simp) ?_)
        simp -implicitDefEqProofs [isa, hi, ia]
        (first | refine CallK.of (countOf_pc b (nums r)[i] hb.1) (by simp) ?_ | refine CallD.of (countOf_pc b (nums r)[i] hb.1) (by simp) ?_)
        simp -implicitDefEqProofs [q, w1]
        refine ⟨rfl, ?_⟩
        simp only [dcS, hs, z, if_false]
        ((try simp only [isa]); refine Weak.sub (by simp [lk, keptA, AV.keys, isa]) ?_; simp only [isa, List.cons_append, List.nil_append, List.mem_cons, List.not_mem_nil, or_false, forall_eq_or_imp, forall_eq, dma_kept, and_true]; (try simp [lk, keptO, keptA, AV.keys, isa]))
    · rw [if_neg q] at hs
      by_cases z : dfN (nums r) (fun n => ctL n a.its) (fun n => ctL n b.its) i = []
      · rw [z] at hs
        simp -implicitDefEqProofs [dcS, z, hi, ia, isa]
        (first | refine CallK.of (countOf_pc a (nums r)[i] ha.1) (by simp) ?_ | refine CallD.of (countOf_pc a (nums r)[i] ha.1) (by simp) ?_)
        simp -implicitDefEqProofs [isa, hi, ia]
        (first | refine CallK.of (countOf_pc b (nums r)[i] hb.1) (by simp) ?_ | refine CallD.of (countOf_pc b (nums r)[i] hb.1) (by simp) ?_)
        simp -implicitDefEqProofs [q, w1, hi, ia]
        refine ⟨rfl, ?_⟩
        simp only [dcS, hs, List.nil_append, List.cons_ne_nil, if_false]
        ((try simp only [isa, dma]); refine Weak.sub (by simp [lk, keptA, AV.keys, isa, dma]) ?_; simp only [isa, dma, List.cons_append, List.nil_append, List.mem_cons, List.not_mem_nil, or_false, forall_eq_or_imp, forall_eq, dma_kept, and_true]; (try simp [lk, keptO, keptA, AV.keys, isa, dma]))
      · simp -implicitDefEqProofs [dcS, z, hi, ia, isa]
        (first | refine CallK.of (countOf_pc a (nums r)[i] ha.1) (by simp) ?_ | refine CallD.of (countOf_pc a (nums r)[i] ha.1) (by simp) ?_)
        simp -implicitDefEqProofs [isa, hi, ia]
        (first | refine CallK.of (countOf_pc b (nums r)[i] hb.1) (by simp) ?_ | refine CallD.of (countOf_pc b (nums r)[i] hb.1) (by simp) ?_)
        simp -implicitDefEqProofs [q, w1, bb, hi, ia]
        refine ⟨rfl, ?_⟩
        simp only [dcS, hs, List.append_eq_nil_iff, List.cons_ne_nil, and_false, if_false]
        ((try simp only [isa, dma]); refine Weak.sub (by simp [lk, keptA, AV.keys, isa, dma]) ?_; simp only [isa, dma, List.cons_append, List.nil_append, List.mem_cons, List.not_mem_nil, or_false, forall_eq_or_imp, forall_eq, dma_kept, and_true]; (try simp [lk, keptO, keptA, AV.keys, isa, dma]))
  · intro _
    refine GO_AR mixed 1000 ?_
    obtain ⟨C, hC⟩ : ∃ C, C = orNil ((dfN (nums r) (fun n => ctL n a.its) (fun n => ctL n b.its) (nums r).length).map dma) := ⟨_, rfl⟩
    have hCk : C.keys = [] := by rw [hC]; exact orNil_keys _
    have hCs : ∀ ok st n, snapF ok st n C = some C := by rw [hC]; exact orNil_snap _
    have key : ∀ st : St, Weak st (ddS C a b 0) → AR Tryd.prog R (endLp (headS (dropS 9 rc_ref02_Differ))) st (RetP Tryd.prog R [KF.bk 2, KF.sq (dropS 10 rc_ref02_Differ)] (Fin rr_ref02_Differ (.tup [C, orNil ((dsN a.dms b.dms (max a.dms.length b.dms.length)).map ia), .int .i64 0]))) := by
      intro st hw
      refine AR_for (ddS C a b) (fun _ => True) (max a.dms.length b.dms.length) hw trivial ?_ ?_
      · intro i hi _
        refine GO_AR mixed 1000 ?_
        have hza := ha.2
        have hzb := hb.2
        unfold Sml at hza hzb
        have w1 : IntKind.i64.wrap ((i : Int) + 1) = ((i + 1 : Nat) : Int) := wrapI (by omega) (by omega)
        have hs := dsN_succ (a := a.dms) (b := b.dms) (i := i)
        have bl := dsN_len a.dms b.dms i
        have bb : ((dsN a.dms b.dms i).length + 1) * 8 ≤ 70368744177664 := by omega
        by_cases ca : i < a.dms.length
        · have ca2 : ¬ a.dms.length ≤ i := by omega
          by_cases cb : i < b.dms.length
          · have cb2 : ¬ b.dms.length ≤ i := by omega
            rw [dsB_at ca cb] at hs
            by_cases q : a.dms[i] = b.dms[i]
            · rw [if_neg (by simp [q])] at hs
              by_cases z : dsN a.dms b.dms i = []
              · rw [z] at hs
                simp -implicitDefEqProofs [endLp, headS, dropS, rc_ref02_Differ, ddS, z, isa, dma, ca, cb, ca2, cb2, q, w1]
                refine ⟨rfl, ?_⟩
                simp only [ddS, hs, z, if_true, if_false]
                ((try simp only [isa, hCk, ia]); refine Weak.sub (by simp [lk, keptA, AV.keys, isa, hCk, ia]) ?_; simp only [isa, hCk, ia, List.cons_append, List.nil_append, List.mem_cons, List.not_mem_nil, or_false, forall_eq_or_imp, forall_eq, ia_kept, and_true]; (try simp [lk, keptO, keptA, AV.keys, isa, hCk, ia]))
              · simp -implicitDefEqProofs [endLp, headS, dropS, rc_ref02_Differ, ddS, z, isa, dma, ca, cb, ca2, cb2, q, w1]
                refine ⟨rfl, ?_⟩
                simp only [ddS, hs, z, if_true, if_false]
                ((try simp only [isa, hCk, ia]); refine Weak.sub (by simp [lk, keptA, AV.keys, isa, hCk, ia]) ?_; simp only [isa, hCk, ia, List.cons_append, List.nil_append, List.mem_cons, List.not_mem_nil, or_false, forall_eq_or_imp, forall_eq, ia_kept, and_true]; (try simp [lk, keptO, keptA, AV.keys, isa, hCk, ia]))
            · rw [if_pos (by simp [q])] at hs
              by_cases z : dsN a.dms b.dms i = []
              · rw [z] at hs
                simp -implicitDefEqProofs [endLp, headS, dropS, rc_ref02_Differ, ddS, z, isa, dma, ca, cb, ca2, cb2]
                refine ⟨rfl, ?_⟩
                rw [dm_ne q]
                simp -implicitDefEqProofs [w1]
                simp only [ddS, hs, List.nil_append, List.append_eq_nil_iff, List.cons_ne_nil, and_false, if_false]
                ((try simp only [isa, hCk, ia]); refine Weak.sub (by simp [lk, keptA, AV.keys, isa, hCk, ia]) ?_; simp only [isa, hCk, ia, List.cons_append, List.nil_append, List.mem_cons, List.not_mem_nil, or_false, forall_eq_or_imp, forall_eq, ia_kept, and_true]; (try simp [lk, keptO, keptA, AV.keys, isa, hCk, ia]))
              · simp -implicitDefEqProofs [endLp, headS, dropS, rc_ref02_Differ, ddS, z, isa, dma, ca, cb, ca2, cb2]
                refine ⟨rfl, ?_⟩
                rw [dm_ne q]
                simp -implicitDefEqProofs [w1, bb]
                simp only [ddS, hs, List.nil_append, List.append_eq_nil_iff, List.cons_ne_nil, and_false, if_false]
                ((try simp only [isa, hCk, ia]); refine Weak.sub (by simp [lk, keptA, AV.keys, isa, hCk, ia]) ?_; simp only [isa, hCk, ia, List.cons_append, List.nil_append, List.mem_cons, List.not_mem_nil, or_false, forall_eq_or_imp, forall_eq, ia_kept, and_true]; (try simp [lk, keptO, keptA, AV.keys, isa, hCk, ia]))
          · have cb2 : b.dms.length ≤ i := by omega
            rw [if_pos (by simp [dsB, cb2])] at hs
            by_cases z : dsN a.dms b.dms i = []
            · rw [z] at hs
              simp -implicitDefEqProofs [endLp, headS, dropS, rc_ref02_Differ, ddS, z, isa, dma, ca, cb, ca2, cb2, w1]
              refine ⟨rfl, ?_⟩
              simp only [ddS, hs, List.nil_append, List.append_eq_nil_iff, List.cons_ne_nil, and_false, if_false]
              ((try simp only [isa, hCk, ia]); refine Weak.sub (by simp [lk, keptA, AV.keys, isa, hCk, ia]) ?_; simp only [isa, hCk, ia, List.cons_append, List.nil_append, List.mem_cons, List.not_mem_nil, or_false, forall_eq_or_imp, forall_eq, ia_kept, and_true]; (try simp [lk, keptO, keptA, AV.keys, isa, hCk, ia]))
            · simp -implicitDefEqProofs [endLp, headS, dropS, rc_ref02_Differ, ddS, z, isa, dma, ca, cb, ca2, cb2, bb, w1]
              refine ⟨rfl, ?_⟩
              simp only [ddS, hs, List.nil_append, List.append_eq_nil_iff, List.cons_ne_nil, and_false, if_false]
              ((try simp only [isa, hCk, ia]); refine Weak.sub (by simp [lk, keptA, AV.keys, isa, hCk, ia]) ?_; simp only [isa, hCk, ia, List.cons_append, List.nil_append, List.mem_cons, List.not_mem_nil, or_false, forall_eq_or_imp, forall_eq, ia_kept, and_true]; (try simp [lk, keptO, keptA, AV.keys, isa, hCk, ia]))
        · have ca2 : a.dms.length ≤ i := by omega
          have cb : i < b.dms.length := by omega
          rw [if_pos (by simp [dsB, ca2])] at hs
          by_cases z : dsN a.dms b.dms i = []
          · rw [z] at hs
            simp -implicitDefEqProofs [endLp, headS, dropS, rc_ref02_Differ, ddS, z, isa, dma, ca, cb, ca2, w1]
            refine ⟨rfl, ?_⟩
            simp only [ddS, hs, List.nil_append, List.append_eq_nil_iff, List.cons_ne_nil, and_false, if_false]
            ((try simp only [isa, hCk, ia]); refine Weak.sub (by simp [lk, keptA, AV.keys, isa, hCk, ia]) ?_; simp only [isa, hCk, ia, List.cons_append, List.nil_append, List.mem_cons, List.not_mem_nil, or_false, forall_eq_or_imp, forall_eq, ia_kept, and_true]; (try simp [lk, keptO, keptA, AV.keys, isa, hCk, ia]))
          · simp -implicitDefEqProofs [endLp, headS, dropS, rc_ref02_Differ, ddS, z, isa, dma, ca, cb, ca2, bb, w1]
            refine ⟨rfl, ?_⟩
            simp only [ddS, hs, List.nil_append, List.append_eq_nil_iff, List.cons_ne_nil, and_false, if_false]
            ((try simp only [isa, hCk, ia]); refine Weak.sub (by simp [lk, keptA, AV.keys, isa, hCk, ia]) ?_; simp only [isa, hCk, ia, List.cons_append, List.nil_append, List.mem_cons, List.not_mem_nil, or_false, forall_eq_or_imp, forall_eq, ia_kept, and_true]; (try simp [lk, keptO, keptA, AV.keys, isa, hCk, ia]))
      · intro _
        refine GO_AR mixed 1000 ?_
        have n1 : ¬ max a.dms.length b.dms.length < a.dms.length := by omega
        have n2 : ¬ max a.dms.length b.dms.length < b.dms.length := by omega
        generalize max a.dms.length b.dms.length = M at *
        by_cases z : dsN a.dms b.dms M = []
        · simp -implicitDefEqProofs [endLp, headS, dropS, rc_ref02_Differ, ddS, z, isa, n1, n2]
          refine GO_ret mixed 1000 ?_
          simp -implicitDefEqProofs [dropS, rc_ref02_Differ, rr_ref02_Differ, orNil, hCs]
        · have pu := ia_all (dsN a.dms b.dms M)
          simp -implicitDefEqProofs [endLp, headS, dropS, rc_ref02_Differ, ddS, z, isa, n1, n2]
          refine GO_ret mixed 1000 ?_
          simp -implicitDefEqProofs [dropS, rc_ref02_Differ, rr_ref02_Differ, orNil, hCs, z, pu]
    rw [← hC]
    by_cases z : dfN (nums r) (fun n => ctL n a.its) (fun n => ctL n b.its) (nums r).length = []
    · rw [z] at hC
      simp -implicitDefEqProofs [dcS, z]
      refine GO_ret mixed 1000 ?_
      simp -implicitDefEqProofs []
      refine key _ ?_
      simp only [ddS, hC, orNil, if_true, List.map_nil, dsN, List.range_zero, List.filter_nil]
      (first | exact Weak.tm (by simp [lk, isa]) | exact Weak.sub (by simp [lk, keptA, AV.keys, isa]) (by simp [lk, keptO, keptA, AV.keys, isa]))
    · have pu := dma_all (dfN (nums r) (fun n => ctL n a.its) (fun n => ctL n b.its) (nums r).length)
      simp -implicitDefEqProofs [dcS, z]
      refine GO_ret mixed 1000 ?_
      simp -implicitDefEqProofs []
      refine key _ (Weak.trans (b := ⟨[(22, .int .i64 0), (21, .nils), (16, .osl 82 (dfN (nums r) (fun n => ctL n a.its) (fun n => ctL n b.its) (nums r).length).length), (12, .ptr 12 0), (14, .ptr 14 0)], [(12, .box (isa a)), (14, .box (isa b)), (82, .row 3 ((dfN (nums r) (fun n => ctL n a.its) (fun n => ctL n b.its) (nums r).length).map dma))]⟩) (by ((try simp only [isa]); refine Weak.sub (by simp [lk, keptA, AV.keys, isa]) ?_; simp only [isa, List.cons_append, List.nil_append, List.mem_cons, List.not_mem_nil, or_false, forall_eq_or_imp, forall_eq, dma_kept, and_true]; (try simp [lk, keptO, keptA, AV.keys, isa]))) (Weak.trans (Weak.frz (fun k => k == 82) _) ?_))
      rw [hC]
      generalize dfN (nums r) (fun n => ctL n a.its) (fun n => ctL n b.its) (nums r).length = L at *
      simp only [ddS, orNil, List.map_eq_nil_iff, z, if_false, if_true, List.map_nil, dsN, List.range_zero, List.filter_nil]
      ((try simp only [frzSt, frzA, frzO, frz, snapF, snapL, St.get, pu, isa]); refine Weak.sub (by simp [lk, keptA, AV.keys, frzSt, frzA, frzO, frz, snapF, snapL, St.get, pu, isa]) ?_; simp only [frzSt, frzA, frzO, frz, snapF, snapL, St.get, pu, isa, List.cons_append, List.nil_append, List.mem_cons, List.not_mem_nil, or_false, forall_eq_or_imp, forall_eq, and_true, and_true]; (try simp [lk, keptO, keptA, AV.keys, frzSt, frzA, frzO, frz, snapF, snapL, St.get, pu, isa]))
end
end Go.Proofs.YtdpmioiamcgfkaaDoor

/-! What is above a drawing: what the reference's functions compute. -/
namespace Go.Proofs.YtdpmioiamcgfkaaDoor
open Go.RowKit

theorem ovS_take {T : Int → Iss} {d n : Int} {g : Int → Bool} {its : List (Int × Int)} {k : Nat} (h : k < its.length) : ovS T d n g (its.take (k + 1)) = fun m => if m = n then ovS T d n g (its.take k) n || decide (its[k].1 = d) || ovS T d n g (its.take k) its[k].1 else ovS T d n g (its.take k) m := by
  rw [List.take_succ_eq_append_getElem h, ovS, List.foldl_append]; rfl
theorem ovR_take {T : Int → Iss} {d : Int} {g : Int → Bool} {l : List Int} {i : Nat} (h : i < l.length) : ovR T d (l.take (i + 1)) g = ovS T d l[i] (ovR T d (l.take i) g) (T l[i]).its := by
  rw [List.take_succ_eq_append_getElem h, ovR, List.foldl_append]; rfl

section
variable {G : Nat → Option (List AV)}

theorem overR_pc (r : List Iss) (lt : List Int) (d : Int) (h : Wf r) (ho : openV r = 0) (hlt : ltB r lt = true) : PC Tryd.prog G 86 [rega r, .vsl (lt.map ia), .int .i64 d] (if abV r lt d = [] then .nils else .vsl ((abV r lt d).map ia)) := by
  have hL := open_listed ho
  have hne : r ≠ [] := by have := listed_60 hL; intro e; subst e; simp at this
  have hl := listed_20 hL
  have hO := ord_of hL
  have hnd := nums_nodup hO
  have hns := nums_sml h.1.1
  have ev : abV r lt d = flN (nums r) (ovK (tkV r lt) d (nums r) (nums r).length) (nums r).length := by rw [flN, List.take_length]; exact (over_eq ho hlt d).symm
  rw [ev]
  (refine pc_ref02_Over (Nat.le_of_ble_eq_true rfl) fun R hG hrd => GO_AR mixed 1000 ?_; subst hG)
  simp -implicitDefEqProofs [rc_ref02_Over, rr_ref02_Over, rega]
  (first | refine CallK.of (numbers_pc r h.1.1 hne) (by simp) ?_ | refine CallD.of (numbers_pc r h.1.1 hne) (by simp) ?_)
  have b1 : ((nums r).length : Int) ≤ 16777216 := by omega
  have rp := rowB_rep (l := nums r)
  simp -implicitDefEqProofs [b1, rp]
  refine AR_for (fun k => ⟨[(9, .int .i64 k), (8, .osl 19 (nums r).length), (7, .vsl ((nums r).map ia)), (3, .ptr 3 0), (1, .vsl (lt.map ia)), (2, .int .i64 d)], [(3, .box [.vsl (r.map isa)]), (19, .row 1 (rowB (nums r) (ovK (tkV r lt) d (nums r) k)))]⟩) (fun _ => True) (nums r).length ?_ trivial ?_ ?_
  · ((try simp only [ovK]); refine Weak.sub (by simp [lk, keptA, AV.keys, ovK]) ?_; simp only [ovK, List.cons_append, List.nil_append, List.mem_cons, List.not_mem_nil, or_false, forall_eq_or_imp, forall_eq, kept_rowB, and_true]; (try simp [lk, keptO, keptA, AV.keys, ovK]))
  · intro k hk _
    refine GO_AR mixed 1000 ?_
    have w0 : IntKind.i64.wrap ((k : Int) + 1) = ((k + 1 : Nat) : Int) := wrapI (by omega) (by omega)
    simp -implicitDefEqProofs [hk]
    refine AR_for (fun i => ⟨[(10, .int .i64 i), (9, .int .i64 k), (8, .osl 19 (nums r).length), (7, .vsl ((nums r).map ia)), (3, .ptr 3 0), (1, .vsl (lt.map ia)), (2, .int .i64 d)], [(3, .box [.vsl (r.map isa)]), (19, .row 1 (rowB (nums r) (ovR (tkV r lt) d ((nums r).take i) (ovK (tkV r lt) d (nums r) k))))]⟩) (fun _ => True) (nums r).length ?_ trivial ?_ ?_
    · ((try simp only [ovR, List.take_zero, List.foldl_nil]); refine Weak.sub (by simp [lk, keptA, AV.keys, ovR, List.take_zero, List.foldl_nil]) ?_; simp only [ovR, List.take_zero, List.foldl_nil, List.cons_append, List.nil_append, List.mem_cons, List.not_mem_nil, or_false, forall_eq_or_imp, forall_eq, kept_rowB, and_true]; (try simp [lk, keptO, keptA, AV.keys, ovR, List.take_zero, List.foldl_nil]))
    · intro i hi _
      refine GO_AR mixed 1000 ?_
      have w1 : IntKind.i64.wrap ((i : Int) + 1) = ((i + 1 : Nat) : Int) := wrapI (by omega) (by omega)
      have hn := List.getElem_mem hi
      have hx := tk_mem hL hlt hn
      have hsz := h.1.2 _ hx.1
      have h8 := tk_8 ho hlt _ hn
      have hin := tk_its hL hlt hn
      have ht := taken_pcR (G := R.G) r lt (nums r)[i] h hL hlt hn
      have rt := ovR_take (T := tkV r lt) (d := d) (g := ovK (tkV r lt) d (nums r) k) hi
      generalize ovR (tkV r lt) d ((nums r).take i) (ovK (tkV r lt) d (nums r) k) = g at *
      have e2 : (nums r)[i]? = some (nums r)[i] := List.getElem?_eq_getElem hi
      generalize hX : tkV r lt (nums r)[i] = x at *
      simp -implicitDefEqProofs [hi, ia]
      (first | refine CallK.of (ht) (by simp) ?_ | refine CallD.of (ht) (by simp) ?_)
      simp -implicitDefEqProofs [isa]
      refine ⟨rfl, ?_⟩
      refine AR_for (fun m => ⟨[(12, .int .i64 m), (11, .ptr 11 0), (10, .int .i64 i), (9, .int .i64 k), (8, .osl 19 (nums r).length), (7, .vsl ((nums r).map ia)), (3, .ptr 3 0), (1, .vsl (lt.map ia)), (2, .int .i64 d)], [(3, .box [.vsl (r.map isa)]), (11, .box (isa x)), (19, .row 1 (rowB (nums r) (ovS (tkV r lt) d (nums r)[i] g (x.its.take m))))]⟩) (fun _ => True) x.its.length ?_ trivial ?_ ?_
      · ((try simp only [ovS, isa, List.take_zero, List.foldl_nil]); refine Weak.sub (by simp [lk, keptA, AV.keys, ovS, isa, List.take_zero, List.foldl_nil]) ?_; simp only [ovS, isa, List.take_zero, List.foldl_nil, List.cons_append, List.nil_append, List.mem_cons, List.not_mem_nil, or_false, forall_eq_or_imp, forall_eq, kept_rowB, and_true]; (try simp [lk, keptO, keptA, AV.keys, ovS, isa, List.take_zero, List.foldl_nil]))
      · intro m hm _
        refine GO_AR mixed 1000 ?_
        have w2 : IntKind.i64.wrap ((m : Int) + 1) = ((m + 1 : Nat) : Int) := wrapI (by omega) (by omega)
        have st := ovS_take (T := tkV r lt) (d := d) (n := (nums r)[i]) (g := g) hm
        generalize ovS (tkV r lt) d (nums r)[i] g (x.its.take m) = g2 at *
        have rl := rowB_len (l := nums r) (g := g2)
        have ra := fun j (h : j < (rowB (nums r) g2).length) => rowB_at (l := nums r) (g := g2) h
        have rs := fun v => rowB_set hnd (g := g2) (v := v) e2
        cases q1 : g2 (nums r)[i]
        · by_cases q2 : x.its[m].1 = d
          · rw [q1, q2] at st
            simp -implicitDefEqProofs [hi, hm, isa, ita, rl, ra, q1, q2, rs, w2]
            ((try simp only [st, isa]); refine Weak.sub (by simp [lk, keptA, AV.keys, st, isa]) ?_; simp only [st, isa, List.cons_append, List.nil_append, List.mem_cons, List.not_mem_nil, or_false, forall_eq_or_imp, forall_eq, kept_rowB, and_true]; (try simp [lk, keptO, keptA, AV.keys, st, isa]))
          · obtain ⟨j, hj, hlt3, hget⟩ := idx_mem (hin _ (List.getElem_mem hm))
            have hgt : (nums r)[j] = x.its[m].1 := (List.getElem?_eq_some_iff.1 hget).2
            simp -implicitDefEqProofs [hi, hm, isa, ita, rl, ra, q1, q2]
            (first | refine CallK.of (index_pc (nums r) _ hns) (by simp) ?_ | refine CallD.of (index_pc (nums r) _ hns) (by simp) ?_)
            rw [hj]
            simp -implicitDefEqProofs [hi, rl, ra, hlt3, hgt, rs, w2]
            ((try simp only [st, isa, q1, q2]); refine Weak.sub (by simp [lk, keptA, AV.keys, st, isa, q1, q2]) ?_; simp only [st, isa, q1, q2, List.cons_append, List.nil_append, List.mem_cons, List.not_mem_nil, or_false, forall_eq_or_imp, forall_eq, kept_rowB, and_true]; (try simp [lk, keptO, keptA, AV.keys, st, isa, q1, q2]))
        · rw [q1] at st
          simp -implicitDefEqProofs [hi, hm, isa, ita, rl, ra, q1, rs, w2]
          ((try simp only [st, isa]); refine Weak.sub (by simp [lk, keptA, AV.keys, st, isa]) ?_; simp only [st, isa, List.cons_append, List.nil_append, List.mem_cons, List.not_mem_nil, or_false, forall_eq_or_imp, forall_eq, kept_rowB, and_true]; (try simp [lk, keptO, keptA, AV.keys, st, isa]))
      · intro _
        refine GO_AR mixed 1000 ?_
        simp -implicitDefEqProofs [isa]
        refine GO_ret mixed 1000 ?_
        simp -implicitDefEqProofs [w1]
        ((try simp only [rt]); refine Weak.sub (by simp [lk, keptA, AV.keys, rt]) ?_; simp only [rt, List.cons_append, List.nil_append, List.mem_cons, List.not_mem_nil, or_false, forall_eq_or_imp, forall_eq, kept_rowB, and_true]; (try simp [lk, keptO, keptA, AV.keys, rt]))
    · intro _
      refine GO_AR mixed 1000 ?_
      simp -implicitDefEqProofs []
      refine GO_ret mixed 1000 ?_
      simp -implicitDefEqProofs [w0]
      ((try simp only [ovK]); refine Weak.sub (by simp [lk, keptA, AV.keys, ovK]) ?_; simp only [ovK, List.cons_append, List.nil_append, List.mem_cons, List.not_mem_nil, or_false, forall_eq_or_imp, forall_eq, kept_rowB, and_true]; (try simp [lk, keptO, keptA, AV.keys, ovK]))
  · intro _
    refine GO_AR mixed 1000 ?_
    generalize ovK (tkV r lt) d (nums r) (nums r).length = g at *
    simp -implicitDefEqProofs []
    refine GO_ret mixed 1000 ?_
    simp -implicitDefEqProofs []
    refine AR_for (ovE (nums r) g) (fun _ => True) (nums r).length ?_ trivial ?_ ?_
    · have e0 : flN (nums r) g 0 = [] := rfl
      simp only [ovE, e0, if_true]
      ((try simp only [true_and]); refine Weak.sub (by simp [lk, keptA, AV.keys, true_and]) ?_; simp only [true_and, List.cons_append, List.nil_append, List.mem_cons, List.not_mem_nil, or_false, forall_eq_or_imp, forall_eq, kept_rowB, and_true]; (try simp [lk, keptO, keptA, AV.keys, true_and]))
    · intro i hi _
      refine GO_AR mixed 1000 ?_
      have w1 : IntKind.i64.wrap ((i : Int) + 1) = ((i + 1 : Nat) : Int) := wrapI (by omega) (by omega)
      have rl := rowB_len (l := nums r) (g := g)
      have ra := fun j (h : j < (rowB (nums r) g).length) => rowB_at (l := nums r) (g := g) h
      have hs := flN_succ (g := g) hi
      have bl := flN_len (nums r) g i
      have bb : ((flN (nums r) g i).length + 1) * 8 ≤ 70368744177664 := by omega
      cases q : g (nums r)[i]
      · rw [if_neg (by simp [q])] at hs
        by_cases z : flN (nums r) g i = []
        · rw [z] at hs
          simp -implicitDefEqProofs [ovE, z, hi, ia, rl, ra, q, w1, hs]
          ((try simp only [ia]); refine Weak.sub (by simp [lk, keptA, AV.keys, ia]) ?_; simp only [ia, List.cons_append, List.nil_append, List.mem_cons, List.not_mem_nil, or_false, forall_eq_or_imp, forall_eq, kept_rowB, ia_kept, and_true]; (try simp [lk, keptO, keptA, AV.keys, ia]))
        · simp -implicitDefEqProofs [ovE, z, hi, ia, rl, ra, q, w1, hs]
          ((try simp only [ia]); refine Weak.sub (by simp [lk, keptA, AV.keys, ia]) ?_; simp only [ia, List.cons_append, List.nil_append, List.mem_cons, List.not_mem_nil, or_false, forall_eq_or_imp, forall_eq, kept_rowB, ia_kept, and_true]; (try simp [lk, keptO, keptA, AV.keys, ia]))
      · rw [if_pos q] at hs
        by_cases z : flN (nums r) g i = []
        · rw [z] at hs
          simp -implicitDefEqProofs [ovE, z, hi, ia, rl, ra, q, w1, hs]
          ((try simp only [ia]); refine Weak.sub (by simp [lk, keptA, AV.keys, ia]) ?_; simp only [ia, List.cons_append, List.nil_append, List.mem_cons, List.not_mem_nil, or_false, forall_eq_or_imp, forall_eq, kept_rowB, ia_kept, and_true]; (try simp [lk, keptO, keptA, AV.keys, ia]))
        · simp -implicitDefEqProofs [ovE, z, hi, ia, rl, ra, q, w1, hs, bb]
          ((try simp only [ia]); refine Weak.sub (by simp [lk, keptA, AV.keys, ia]) ?_; simp only [ia, List.cons_append, List.nil_append, List.mem_cons, List.not_mem_nil, or_false, forall_eq_or_imp, forall_eq, kept_rowB, ia_kept, and_true]; (try simp [lk, keptO, keptA, AV.keys, ia]))
    · intro _
      refine GO_AR mixed 1000 ?_
      by_cases z : flN (nums r) g (nums r).length = []
      · simp -implicitDefEqProofs [ovE, z]
        refine GO_ret mixed 1000 ?_
        simp -implicitDefEqProofs [z]
      · have pu : ((flN (nums r) g (nums r).length).map ia).all (fun r => r.all AV.pure) = true := by simp [ia, AV.pure]
        simp -implicitDefEqProofs [ovE, z]
        refine GO_ret mixed 1000 ?_
        simp -implicitDefEqProofs [z, pu]

theorem aboveR_pc (r : List Iss) (lt : List Int) (d : Int) (h : Wf r) : PC Tryd.prog G 42 [rega r, .vsl (lt.map ia), .int .i64 d] (.tup [.vsl ((abE r lt d).1.map ia), .int .i64 (abE r lt d).2]) := by
  by_cases e : askV r lt d = 0
  · obtain ⟨ho, hlt, hn⟩ := ask_0 e
    have hp := overR_pc (G := G) r lt d h ho hlt
    have ev : abE r lt d = (abV r lt d, 0) := by rw [abE, if_pos e]
    rw [ev]
    generalize abV r lt d = l at *
    refine PC.nzR (v := .tup [if l = [] then .nils else .vsl (l.map ia), .int .i64 0]) ?_ (by by_cases q : l = [] <;> simp [q, nz])
    (refine pc_ref02_Above (Nat.le_of_ble_eq_true rfl) fun R hG hrd => GO_AR mixed 1000 ?_; subst hG)
    simp -implicitDefEqProofs [rc_ref02_Above, rr_ref02_Above, rega]
    (first | refine CallK.of (asked_pc r lt d h) (by simp) ?_ | refine CallD.of (asked_pc r lt d h) (by simp) ?_)
    simp -implicitDefEqProofs [e]
    refine CallK.of hp (by simp) ?_
    by_cases q : l = []
    · simp -implicitDefEqProofs [q]
    · simp -implicitDefEqProofs [q]
  · refine PC.nzR (v := .tup [.nils, .int .i64 (askV r lt d)]) ?_ (by simp [nz, abE, e])
    (refine pc_ref02_Above (Nat.le_of_ble_eq_true rfl) fun R hG hrd => GO_AR mixed 1000 ?_; subst hG)
    simp -implicitDefEqProofs [rc_ref02_Above, rr_ref02_Above, rega]
    (first | refine CallK.of (asked_pc r lt d h) (by simp) ?_ | refine CallD.of (asked_pc r lt d h) (by simp) ?_)
    simp -implicitDefEqProofs [e]
end
end Go.Proofs.YtdpmioiamcgfkaaDoor

/-! Parts: what the program's Explode computes. -/
namespace Go.Proofs.YtdpmioiamcgfkaaDoor
open Go.RowKit

theorem ren_dpA (ρ : Nat → Nat) (l : List (Int × Int)) : (AObj.mp (dpA l)).ren ρ = .mp (dpA l) := by
  simp only [AObj.ren, dpA, List.map_map]
  congr 2; funext p; simp [AV.ren]
theorem map_dpA (ρ : Nat → Nat) (l : List (Int × Int)) : (dpA l).map (fun p => (p.1.ren ρ, p.2.ren ρ)) = dpA l := by
  simp only [dpA, List.map_map]; congr 1; funext p; simp [AV.ren]
theorem frz_dpA (ok : Nat → Bool) (st : St) (l : List (Int × Int)) : frzO ok st (.mp (dpA l)) = .mp (dpA l) := by
  simp only [frzO, dpA, List.map_map]
  congr 2; funext p; simp [frzA, frz, AV.keys]
theorem kept_dpA (o : List (Nat × AObj)) (l : List (Int × Int)) : keptO o (.mp (dpA l)) = true := by
  simp only [keptO, List.all_eq_true, dpA, List.mem_map]
  rintro x ⟨y, -, rfl⟩
  simp [keptA, AV.keys]
theorem ren_byA (ρ : Nat → Nat) (r : List Iss) (lt : List Int) : (byA r lt).ren ρ = byA r lt := by simp [byA, AV.ren]
theorem frz_byA (ok : Nat → Bool) (st : St) (r : List Iss) (lt : List Int) : frzA ok st (byA r lt) = byA r lt := by simp [byA, frzA, frz, AV.keys]
theorem frz_b1 (ok : Nat → Bool) (st : St) (r : List Iss) (lt : List Int) : frzO ok st (.box [byA r lt]) = .box [byA r lt] := by simp [frzO, frz_byA]
theorem frz_b2 (st : St) {ok : Nat → Bool} {k : Nat} (h : ok k = false) : frzO ok st (.box [.mp k]) = .box [.mp k] := by simp [frzO, frzA, frz, h]
theorem frz_b3 (st : St) {ok : Nat → Bool} {f : Fn} {a b c : Nat} (h1 : ok a = false) (h2 : ok b = false) (h3 : ok c = false) : frzO ok st (.box [.func f [] [.ptr a 0, .ptr b 0, .ptr c 0]]) = .box [.func f [] [.ptr a 0, .ptr b 0, .ptr c 0]] := by simp [frzO, frzA, frz, h1, h2, h3]
theorem keys_byA (r : List Iss) (lt : List Int) : (byA r lt).keys = [] := by simp [byA, AV.keys]
theorem one_byA (r : List Iss) (lt : List Int) : (byA r lt).one = true := by simp [byA, AV.one, AV.known]
theorem kept_byA (o : List (Nat × AObj)) (r : List Iss) (lt : List Int) : keptA o (byA r lt) = true := by simp [byA, keptA, AV.keys]

/-- What Explode's own function is handed. -/
def exO (r : List Iss) (lt : List Int) (l : List (Int × Int)) : List (Nat × AObj) :=
  [(1009, .box [byA r lt]), (1011, .box [.mp 1027]), (1012, .box [.func (.func 77) [] [.ptr 1009 0, .ptr 1011 0, .ptr 1012 0]]), (1027, .mp (dpA l))]

theorem exO_in (r : List Iss) (lt : List Int) (l : List (Int × Int)) : ∀ p ∈ exO r lt l, keptO (exO r lt l) p.2 = true := by
  simp only [exO, List.mem_cons, List.not_mem_nil, or_false, forall_eq_or_imp, forall_eq, kept_dpA, and_true]
  simp [lk, keptO, keptA, AV.keys, keys_byA]

section
variable {G : Nat → Option (List AV)}

/-- The state of the loop over the items. -/
def exS (r : List Iss) (lt : List Int) (m : Int) (x : Iss) (l : List (Int × Int)) (i : Nat) : St := ⟨[(24, .int .i64 i), (23, .int .i64 x.its.length), (22, .vsl (x.its.map ita)), (1, .int .i64 m), (4, .ptr 1012 0)], exO r lt l⟩
/-- The loop that stands last. -/
def lastLp : RCode → RCode
  | .seq _ b => lastLp b
  | .block _ b => b
  | c => c

theorem add_pb (r : List Iss) (lt : List Int) (ho : openV r = 0) (hlt : ltB r lt = true) : ∀ (k : Nat) (n m : Int) (l : List (Int × Int)), n ∈ nums r → dpN r n ≤ k →
    PB Tryd.prog G 77 (exO r lt l) [.int .i64 n, .int .i64 m, .ptr 1009 0, .ptr 1011 0, .ptr 1012 0] (.tup []) (exO r lt (paM (tkV r lt) k n m l))
  | 0, n, _, _, hn, hd => (dp_pos ho hn hd).elim
  | k + 1, n, m, l, hn, hd => by
    have hL := open_listed ho
    have hrec := fun y (hy : y ∈ (tkV r lt n).its) => fun m l => add_pb r lt ho hlt k y.1 m l (dp_its ho hlt hn hd hy).1 (dp_its ho hlt hn hd hy).2
    have gb := get_mp isA n (byN r lt (nums r).length)
    rw [byN_get hn] at gb
    have h8 := tk_8 ho hlt n hn
    have gc := get_dp n l
    rw [paM]
    generalize tkV r lt n = x at *
    have pc := put_ct n (addW (mpG l n) m) l
    (refine pb_sheet_Explode_1 (Nat.le_of_ble_eq_true rfl) fun R hG hrd => GO_AR mixed 1000 ?_; subst hG)
    have key : ∀ (l1 : List (Int × Int)) (st : St), Weak st (exS r lt m x l1 0) → AR Tryd.prog R (lastLp rc_sheet_Explode_1) st (RetP Tryd.prog R [KF.bk 0] (FinB [] (.tup []) (exO r lt (x.its.foldl (fun l y => paM (tkV r lt) k y.1 (mulW m y.2) l) l1)))) := by
      intro l1 st hw
      refine AR_for (fun i => exS r lt m x ((x.its.take i).foldl (fun l y => paM (tkV r lt) k y.1 (mulW m y.2) l) l1) i) (fun _ => True) x.its.length (by simpa using hw) trivial ?_ ?_
      · intro i hi _
        refine GO_AR mixed 1000 ?_
        have w1 : IntKind.i64.wrap ((i : Int) + 1) = ((i + 1 : Nat) : Int) := wrapI (by omega) (by omega)
        have ft := fold_take (fun l (y : Int × Int) => paM (tkV r lt) k y.1 (mulW m y.2) l) l1 x.its i hi
        have hr := hrec x.its[i] (List.getElem_mem hi) (mulW m x.its[i].2) ((x.its.take i).foldl (fun l y => paM (tkV r lt) k y.1 (mulW m y.2) l) l1)
        generalize (x.its.take i).foldl (fun l y => paM (tkV r lt) k y.1 (mulW m y.2) l) l1 = l2 at *
        simp -implicitDefEqProofs [lastLp, rc_sheet_Explode_1, exS, exO, hi, ita]
        refine CallK.sem (CallSem.byref hr id (by simp [exO]) (by simp [exO]) (by simp [exO, St.get, lk, ren_dpA, AObj.ren, AV.ren, ren_byA, map_dpA]) (exO_in _ _ _) (by simp [exO, keptA, AV.keys, lk]) rfl (by simp [AV.ren, mulW]) rfl rfl) ?_
        simp -implicitDefEqProofs [setsB, exO, ren_dpA, AObj.ren, AV.ren, ren_byA, map_dpA, w1]
        ((try simp only [exS, exO, byA, ft]); refine Weak.sub (by simp [lk, keptA, AV.keys, exS, exO, byA, ft]) ?_; simp only [exS, exO, byA, ft, List.cons_append, List.nil_append, List.mem_cons, List.not_mem_nil, or_false, forall_eq_or_imp, forall_eq, kept_dpA, and_true]; (try simp [lk, keptO, keptA, AV.keys, exS, exO, byA, ft]))
      · intro _
        refine GO_AR mixed 1000 ?_
        simp -implicitDefEqProofs [lastLp, rc_sheet_Explode_1, exS, exO]
        refine GO_ret mixed 1000 ?_
        simp -implicitDefEqProofs [FinB, frzSt, newK, frz_dpA, frz_b1, frz_b2, frz_b3, exO]
    by_cases e : x.k = 1
    · rw [if_pos e]
      simp -implicitDefEqProofs [rc_sheet_Explode_1, rr_sheet_Explode_1, exO, byA, gb, isA, isa, e]
      exact key l _ (by ((try simp only [exS, exO, byA]); refine Weak.sub (by simp [lk, keptA, AV.keys, exS, exO, byA]) ?_; simp only [exS, exO, byA, List.cons_append, List.nil_append, List.mem_cons, List.not_mem_nil, or_false, forall_eq_or_imp, forall_eq, kept_dpA, and_true]; (try simp [lk, keptO, keptA, AV.keys, exS, exO, byA])))
    · rw [if_neg e]
      generalize mpPut n (addW (mpG l n) m) l = l1 at *
      cases q : dpLk n l
      · have q2 : mpG l n = 0 := by simp [mpG, dpG, q]
        simp only [q2, addW, Int.zero_add] at pc
        simp -implicitDefEqProofs [rc_sheet_Explode_1, rr_sheet_Explode_1, exO, byA, gb, isA, isa, e, gc, q, pc]
        exact key l1 _ (by ((try simp only [exS, exO, byA]); refine Weak.sub (by simp [lk, keptA, AV.keys, exS, exO, byA]) ?_; simp only [exS, exO, byA, List.cons_append, List.nil_append, List.mem_cons, List.not_mem_nil, or_false, forall_eq_or_imp, forall_eq, kept_dpA, and_true]; (try simp [lk, keptO, keptA, AV.keys, exS, exO, byA])))
      · rename_i v
        have q2 : mpG l n = v := by simp [mpG, dpG, q]
        simp only [q2, addW] at pc
        simp -implicitDefEqProofs [rc_sheet_Explode_1, rr_sheet_Explode_1, exO, byA, gb, isA, isa, e, gc, q, pc]
        exact key l1 _ (by ((try simp only [exS, exO, byA]); refine Weak.sub (by simp [lk, keptA, AV.keys, exS, exO, byA]) ?_; simp only [exS, exO, byA, List.cons_append, List.nil_append, List.mem_cons, List.not_mem_nil, or_false, forall_eq_or_imp, forall_eq, kept_dpA, and_true]; (try simp [lk, keptO, keptA, AV.keys, exS, exO, byA])))
end
end Go.Proofs.YtdpmioiamcgfkaaDoor

/-! Where drawings are used, and what is above them: what the program's functions compute. -/
namespace Go.Proofs.YtdpmioiamcgfkaaDoor
open Go.RowKit

theorem map_lfA (ρ : Nat → Nat) (l : List Int) : (lfA l).map (fun p => (p.1.ren ρ, p.2.ren ρ)) = lfA l := by
  simp only [lfA, List.map_map]; congr 1; funext p; simp [AV.ren]
theorem frz_lfA (ok : Nat → Bool) (st : St) (l : List Int) : frzO ok st (.mp (lfA l)) = .mp (lfA l) := by
  simp only [frzO, lfA, List.map_map]
  congr 2; funext p; simp [frzA, frz, AV.keys]
theorem kept_lfA (o : List (Nat × AObj)) (l : List Int) : keptO o (.mp (lfA l)) = true := by
  simp only [keptO, List.all_eq_true, lfA, List.mem_map]
  rintro x ⟨y, -, rfl⟩
  simp [keptA, AV.keys]
theorem ren_bkA (ρ : Nat → Nat) (r : List Iss) (ds : List Int) : (bkA r ds).ren ρ = bkA r ds := by simp [bkA, AV.ren]
theorem keys_bkA (r : List Iss) (ds : List Int) : (bkA r ds).keys = [] := by simp [bkA, AV.keys]
theorem frz_bk (ok : Nat → Bool) (st : St) (r : List Iss) (ds : List Int) : frzO ok st (.box [bkA r ds]) = .box [bkA r ds] := by simp [frzO, frzA, frz, bkA, AV.keys]
theorem frz_f4 (st : St) {ok : Nat → Bool} {f : Fn} {a b c d : Nat} (h1 : ok a = false) (h2 : ok b = false) (h3 : ok c = false) (h4 : ok d = false) : frzO ok st (.box [.func f [] [.ptr a 0, .ptr b 0, .ptr c 0, .ptr d 0]]) = .box [.func f [] [.ptr a 0, .ptr b 0, .ptr c 0, .ptr d 0]] := by simp [frzO, frzA, frz, h1, h2, h3, h4]
/-- What Above's own function is handed. -/
def abO (r : List Iss) (lt : List Int) (s : List Int) : List (Nat × AObj) :=
  [(1008, .box [bkA r (nums r)]), (1011, .box [.mp 1027]), (1009, .box [byA r lt]), (1012, .box [.func (.func 85) [] [.ptr 1008 0, .ptr 1011 0, .ptr 1009 0, .ptr 1012 0]]), (1027, .mp (lfA s))]
theorem abO_in (r : List Iss) (lt : List Int) (l : List Int) : ∀ p ∈ abO r lt l, keptO (abO r lt l) p.2 = true := by
  simp only [abO, List.mem_cons, List.not_mem_nil, or_false, forall_eq_or_imp, forall_eq, kept_lfA, and_true]
  simp [lk, keptO, keptA, AV.keys, keys_byA, keys_bkA]
def abS (r : List Iss) (lt : List Int) (d : Int) (s : List Int) (i : Nat) : St := ⟨[(13, .int .i64 i), (12, .int .i64 (nums r).length), (11, .vsl ((nums r).map ia)), (0, .int .i64 d), (2, .ptr 1011 0), (3, .ptr 1009 0), (4, .ptr 1012 0)], abO r lt s⟩
/-- The states of the last loops. -/
def abF (l S : List Int) (i : Nat) : St := if flN l (fun n => decide (n ∈ S)) i = [] then ⟨[(37, .int .i64 i), (36, .int .i64 l.length), (35, .vsl (l.map ia)), (11, .ptr 11 0), (13, .nils)], [(11, .box [.mp 27]), (27, .mp (lfA S))]⟩
  else ⟨[(37, .int .i64 i), (36, .int .i64 l.length), (35, .vsl (l.map ia)), (11, .ptr 11 0), (13, .osl 47 (flN l (fun n => decide (n ∈ S)) i).length)], [(11, .box [.mp 27]), (27, .mp (lfA S)), (47, .row 1 ((flN l (fun n => decide (n ∈ S)) i).map ia))]⟩
def upS (r : List Iss) (n : Int) (i : Nat) : St := if usN r n i = [] then ⟨[(26, .int .i64 i), (25, .int .i64 r.length), (24, .vsl (r.map isa)), (8, .nils), (1, .int .i64 n)], []⟩
  else ⟨[(26, .int .i64 i), (25, .int .i64 r.length), (24, .vsl (r.map isa)), (8, .osl 37 (usN r n i).length), (1, .int .i64 n)], [(37, .row 2 ((usN r n i).map ita))]⟩

def upF (T : Int → Iss) (l : List Int) (k : Nat) (d : Int) (s : List Int) (n : Int) : List Int := if decide (n ∈ s) = false ∧ needL d (T n).its = true then upV T l k n (s ++ [n]) else s
theorem upV_succ {T : Int → Iss} {l : List Int} {k : Nat} {d : Int} {s : List Int} : upV T l (k + 1) d s = l.foldl (upF T l k d) s := rfl
theorem upF_in {T : Int → Iss} {l : List Int} {k : Nat} {d : Int} {s : List Int} {n : Int} (h : n ∈ s) : upF T l k d s n = s := by simp [upF, h]
theorem upF_no {T : Int → Iss} {l : List Int} {k : Nat} {d : Int} {s : List Int} {n : Int} (h : needL d (T n).its = false) : upF T l k d s n = s := by simp [upF, h]
theorem upF_yes {T : Int → Iss} {l : List Int} {k : Nat} {d : Int} {s : List Int} {n : Int} (h : n ∉ s) (h2 : needL d (T n).its = true) : upF T l k d s n = upV T l k n (s ++ [n]) := by simp [upF, h, h2]
theorem upF_sub {T : Int → Iss} {l : List Int} {k : Nat} {d : Int} {s : List Int} {n x : Int} (h : x ∈ s) : x ∈ upF T l k d s n := by
  unfold upF
  split
  · exact upV_sub _ _ _ _ (List.mem_append.2 (.inl h))
  · exact h

section
variable {G : Nat → Option (List AV)}

theorem needs1_pc (y : Int × Int) (n : Int) : PC Tryd.prog G 113 [.agg [.int .i64 y.1, .int .i64 y.2], .vptr [.int .i64 n] 0] (.bool (decide (y.1 = n))) := by
  (refine pc_sheet_needs_1 (Nat.le_of_ble_eq_true rfl) fun R hG hrd => GO_AR mixed 1000 ?_; subst hG)
  simp -implicitDefEqProofs [rc_sheet_needs_1, rr_sheet_needs_1]
theorem needs_pc (x : Iss) (n : Int) (h : Sml x.its) : PC Tryd.prog G 83 [.agg (isa x), .int .i64 n] (.bool (needL n x.its)) := by
  (refine pc_sheet_needs (Nat.le_of_ble_eq_true rfl) fun R hG hrd => GO_AR mixed 1000 ?_; subst hG)
  simp -implicitDefEqProofs [rc_sheet_needs, rr_sheet_needs, isa]
  (first | refine CallK.flat (containsT_pc 113 [.vptr [.int .i64 n] 0] (fun y => decide (y.1 = n)) x.its (by simp [AV.pure]) h (fun y _ => needs1_pc y n)) (by simp [AV.flat]) (by simp) ?_ | refine CallD.flat (containsT_pc 113 [.vptr [.int .i64 n] 0] (fun y => decide (y.1 = n)) x.its (by simp [AV.pure]) h (fun y _ => needs1_pc y n)) (by simp [AV.flat]) (by simp) ?_)
  simp -implicitDefEqProofs [needL]

theorem usesP_pc (hG : GC G) (r : List Iss) (n : Int) (h : Wf r) : PC Tryd.prog G 39 [rega r, .int .i64 n] (.tup [.vsl ((useE r n).1.map ita), .int .i64 (useE r n).2]) := by
  by_cases k : knV r n = 0
  case neg =>
    refine PC.nzR (v := .tup [.nils, .int .i64 (knV r n)]) ?_ (by simp [nz, useE, k])
    (refine pc_sheet_Uses (Nat.le_of_ble_eq_true rfl) fun R hG hrd => GO_AR mixed 1000 ?_; subst hG)
    simp -implicitDefEqProofs [rc_sheet_Uses, rr_sheet_Uses, rega]
    (first | refine CallK.of (known_pc hG r n h) (by simp) ?_ | refine CallD.of (known_pc hG r n h) (by simp) ?_)
    simp -implicitDefEqProofs [k]
  have ev : useE r n = (usN r n r.length, 0) := by simp [useE, k]
  have hs := h.1.1
  unfold Sml at hs
  rw [ev]
  refine PC.nzR (v := .tup [if usN r n r.length = [] then .nils else .vsl ((usN r n r.length).map ita), .int .i64 0]) ?_ (by split <;> simp_all [nz])
  (refine pc_sheet_Uses (Nat.le_of_ble_eq_true rfl) fun R hG hrd => GO_AR mixed 1000 ?_; subst hG)
  simp -implicitDefEqProofs [rc_sheet_Uses, rr_sheet_Uses, rega]
  (first | refine CallK.of (known_pc hG r n h) (by simp) ?_ | refine CallD.of (known_pc hG r n h) (by simp) ?_)
  simp -implicitDefEqProofs [k, bkA]
  refine AR_for (upS r n) (fun _ => True) r.length ?_ trivial ?_ ?_
  · have e0 : usN r n 0 = [] := rfl
    simp only [upS, e0, if_true]
    (first | exact Weak.tm (by simp [lk]) | exact Weak.sub (by simp [lk, keptA, AV.keys]) (by simp [lk, keptO, keptA, AV.keys]))
  · intro i hi _
    refine GO_AR mixed 1000 ?_
    have w1 : IntKind.i64.wrap ((i : Int) + 1) = ((i + 1 : Nat) : Int) := wrapI (by omega) (by omega)
    have hx := h.1.2 r[i] (List.getElem_mem hi)
    have hs := usN_succ (n := n) hi
    have bl := usN_len r n i
    have bb : ((usN r n i).length + 1) * 16 ≤ 70368744177664 := by omega
    cases q : needL n r[i].its
    · rw [if_neg (by simp [q])] at hs
      by_cases z : usN r n i = []
      · rw [z] at hs
        simp -implicitDefEqProofs [upS, z, hi, isa]
        (first | refine CallK.of (needs_pc r[i] n hx.1) (by simp) ?_ | refine CallD.of (needs_pc r[i] n hx.1) (by simp) ?_)
        simp -implicitDefEqProofs [upS, q, w1, hs]
        ((try simp only [ita]); refine Weak.sub (by simp [lk, keptA, AV.keys, ita]) ?_; simp only [ita, List.cons_append, List.nil_append, List.mem_cons, List.not_mem_nil, or_false, forall_eq_or_imp, forall_eq, ita_kept, and_true]; (try simp [lk, keptO, keptA, AV.keys, ita]))
      · simp -implicitDefEqProofs [upS, z, hi, isa]
        (first | refine CallK.of (needs_pc r[i] n hx.1) (by simp) ?_ | refine CallD.of (needs_pc r[i] n hx.1) (by simp) ?_)
        simp -implicitDefEqProofs [upS, q, w1, hs, z]
        ((try simp only [ita]); refine Weak.sub (by simp [lk, keptA, AV.keys, ita]) ?_; simp only [ita, List.cons_append, List.nil_append, List.mem_cons, List.not_mem_nil, or_false, forall_eq_or_imp, forall_eq, ita_kept, and_true]; (try simp [lk, keptO, keptA, AV.keys, ita]))
    · rw [if_pos q] at hs
      by_cases z : usN r n i = []
      · rw [z] at hs
        simp -implicitDefEqProofs [upS, z, hi, isa]
        (first | refine CallK.of (needs_pc r[i] n hx.1) (by simp) ?_ | refine CallD.of (needs_pc r[i] n hx.1) (by simp) ?_)
        simp -implicitDefEqProofs [q]
        (first | refine CallK.of (name_pc r[i]) (by simp) ?_ | refine CallD.of (name_pc r[i]) (by simp) ?_)
        simp -implicitDefEqProofs [upS, w1, hs]
        ((try simp only [ita]); refine Weak.sub (by simp [lk, keptA, AV.keys, ita]) ?_; simp only [ita, List.cons_append, List.nil_append, List.mem_cons, List.not_mem_nil, or_false, forall_eq_or_imp, forall_eq, ita_kept, and_true]; (try simp [lk, keptO, keptA, AV.keys, ita]))
      · simp -implicitDefEqProofs [upS, z, hi, isa]
        (first | refine CallK.of (needs_pc r[i] n hx.1) (by simp) ?_ | refine CallD.of (needs_pc r[i] n hx.1) (by simp) ?_)
        simp -implicitDefEqProofs [q]
        (first | refine CallK.of (name_pc r[i]) (by simp) ?_ | refine CallD.of (name_pc r[i]) (by simp) ?_)
        simp -implicitDefEqProofs [upS, w1, hs, z, bb]
        ((try simp only [ita]); refine Weak.sub (by simp [lk, keptA, AV.keys, ita]) ?_; simp only [ita, List.cons_append, List.nil_append, List.mem_cons, List.not_mem_nil, or_false, forall_eq_or_imp, forall_eq, ita_kept, and_true]; (try simp [lk, keptO, keptA, AV.keys, ita]))
  · intro _
    refine GO_AR mixed 1000 ?_
    by_cases z : usN r n r.length = []
    · simp -implicitDefEqProofs [upS, z]
      refine GO_ret mixed 1000 ?_
      simp -implicitDefEqProofs [z]
    · have pu : ((usN r n r.length).map ita).all (fun r => r.all AV.pure) = true := by simp [ita, AV.pure]
      simp -implicitDefEqProofs [upS, z]
      refine GO_ret mixed 1000 ?_
      simp -implicitDefEqProofs [z, pu]

theorem up_pb (r : List Iss) (lt : List Int) (h : Wf r) (ho : openV r = 0) (hlt : ltB r lt = true) : ∀ (k : Nat) (d : Int) (s : List Int), leftN (nums r) s < k →
    PB Tryd.prog G 85 (abO r lt s) [.int .i64 d, .ptr 1008 0, .ptr 1011 0, .ptr 1009 0, .ptr 1012 0] (.tup []) (abO r lt (upV (tkV r lt) (nums r) k d s))
  | 0, _, _, hk => by omega
  | k + 1, d, s, hk => by
    have hL := open_listed ho
    have hl := listed_20 hL
    have hrec := fun n s1 (c : leftN (nums r) s1 < k) => up_pb r lt h ho hlt k n s1 c
    rw [upV_succ]
    (refine pb_sheet_Above_1 (Nat.le_of_ble_eq_true rfl) fun R hG hrd => GO_AR mixed 1000 ?_; subst hG)
    simp -implicitDefEqProofs [rc_sheet_Above_1, rr_sheet_Above_1, abO, bkA]
    refine AR_for (fun i => abS r lt d (((nums r).take i).foldl (upF (tkV r lt) (nums r) k d) s) i) (fun i => ∀ x ∈ s, x ∈ ((nums r).take i).foldl (upF (tkV r lt) (nums r) k d) s) (nums r).length ?_ (by simp) ?_ ?_
    · ((try simp only [abS, abO, bkA, byA, List.take_zero, List.foldl_nil]); refine Weak.sub (by simp [lk, keptA, AV.keys, abS, abO, bkA, byA, List.take_zero, List.foldl_nil]) ?_; simp only [abS, abO, bkA, byA, List.take_zero, List.foldl_nil, List.cons_append, List.nil_append, List.mem_cons, List.not_mem_nil, or_false, forall_eq_or_imp, forall_eq, kept_lfA, and_true]; (try simp [lk, keptO, keptA, AV.keys, abS, abO, bkA, byA, List.take_zero, List.foldl_nil]))
    · intro i hi hsub
      refine GO_AR mixed 1000 ?_
      have w1 : IntKind.i64.wrap ((i : Int) + 1) = ((i + 1 : Nat) : Int) := wrapI (by omega) (by omega)
      have ft := fold_take (upF (tkV r lt) (nums r) k d) s (nums r) i hi
      have hsub2 : ∀ x ∈ s, x ∈ ((nums r).take (i + 1)).foldl (upF (tkV r lt) (nums r) k d) s := fun x hx => by rw [ft]; exact upF_sub (hsub x hx)
      generalize ((nums r).take i).foldl (upF (tkV r lt) (nums r) k d) s = s1 at *
      have hn := List.getElem_mem hi
      have gl := get_lf (nums r)[i] s1
      have gb := get_mp isA (nums r)[i] (byN r lt (nums r).length)
      rw [byN_get hn] at gb
      have hx := tk_mem hL hlt hn
      have hsz := h.1.2 _ hx.1
      by_cases q : (nums r)[i] ∈ s1
      · rw [if_pos q] at gl
        rw [upF_in q] at ft
        simp -implicitDefEqProofs [abS, abO, hi, ia, gl, w1]
        exact ⟨(by ((try simp only [abS, abO, bkA, byA, ft]); refine Weak.sub (by simp [lk, keptA, AV.keys, abS, abO, bkA, byA, ft]) ?_; simp only [abS, abO, bkA, byA, ft, List.cons_append, List.nil_append, List.mem_cons, List.not_mem_nil, or_false, forall_eq_or_imp, forall_eq, kept_lfA, and_true]; (try simp [lk, keptO, keptA, AV.keys, abS, abO, bkA, byA, ft]))), hsub2⟩
      · rw [if_neg q] at gl
        have hleft := leftN_lt hn q
        have hmo := leftN_mono (l := nums r) hsub
        have hr := hrec (nums r)[i] (s1 ++ [(nums r)[i]]) (by omega)
        have pl := put_lf q
        have f1 := upF_no (T := tkV r lt) (l := nums r) (k := k) (d := d) (s := s1) (n := (nums r)[i])
        have f2 := upF_yes (T := tkV r lt) (l := nums r) (k := k) (d := d) (n := (nums r)[i]) q
        generalize tkV r lt (nums r)[i] = x at *
        simp -implicitDefEqProofs [abS, abO, hi, ia, gl, byA, gb, isA, isa]
        (first | refine CallK.of (needs_pc x d hsz.1) (by simp) ?_ | refine CallD.of (needs_pc x d hsz.1) (by simp) ?_)
        cases q2 : needL d x.its
        · rw [f1 q2] at ft
          simp -implicitDefEqProofs [w1, abS, abO]
          exact ⟨(by ((try simp only [abS, abO, bkA, byA, ft]); refine Weak.sub (by simp [lk, keptA, AV.keys, abS, abO, bkA, byA, ft]) ?_; simp only [abS, abO, bkA, byA, ft, List.cons_append, List.nil_append, List.mem_cons, List.not_mem_nil, or_false, forall_eq_or_imp, forall_eq, kept_lfA, and_true]; (try simp [lk, keptO, keptA, AV.keys, abS, abO, bkA, byA, ft]))), hsub2⟩
        · rw [f2 q2] at ft
          simp -implicitDefEqProofs [pl]
          refine CallK.sem (CallSem.byref hr id (by simp [abO]) (by simp [abO]) (by simp [abO, St.get, lk, AObj.ren, AV.ren, ren_byA, ren_bkA, map_lfA, byA, bkA]) (abO_in _ _ _) (by simp [abO, keptA, AV.keys, lk]) rfl (by simp [AV.ren]) rfl rfl) ?_
          simp -implicitDefEqProofs [setsB, abO, AObj.ren, AV.ren, ren_byA, ren_bkA, map_lfA, w1, abS]
          exact ⟨(by ((try simp only [abS, abO, bkA, byA, ft]); refine Weak.sub (by simp [lk, keptA, AV.keys, abS, abO, bkA, byA, ft]) ?_; simp only [abS, abO, bkA, byA, ft, List.cons_append, List.nil_append, List.mem_cons, List.not_mem_nil, or_false, forall_eq_or_imp, forall_eq, kept_lfA, and_true]; (try simp [lk, keptO, keptA, AV.keys, abS, abO, bkA, byA, ft]))), hsub2⟩
    · intro _
      refine GO_AR mixed 1000 ?_
      simp -implicitDefEqProofs [abS, abO]
      refine GO_ret mixed 1000 ?_
      simp -implicitDefEqProofs [FinB, frzSt, newK, frz_lfA, frz_b1, frz_b2, frz_bk, frz_f4, abO]
      rfl

theorem aboveP_pc (hG : GC G) (r : List Iss) (lt : List Int) (d : Int) (h : Wf r) : PC Tryd.prog G 41 [rega r, .vsl (lt.map ia), .int .i64 d] (.tup [.vsl ((abE r lt d).1.map ia), .int .i64 (abE r lt d).2]) := by
  by_cases e : askV r lt d = 0
  case neg =>
    refine PC.nzR (v := .tup [.nils, .int .i64 (askV r lt d)]) ?_ (by simp [nz, abE, e])
    (refine pc_sheet_Above (Nat.le_of_ble_eq_true rfl) fun R hG hrd => GO_AR mixed 1000 ?_; subst hG)
    simp -implicitDefEqProofs [rc_sheet_Above, rr_sheet_Above, rega]
    (first | refine CallK.of (taken_pc hG r lt d h) (by simp) ?_ | refine CallD.of (taken_pc hG r lt d h) (by simp) ?_)
    simp -implicitDefEqProofs [takA, e]
  obtain ⟨ho, hlt, hn⟩ := ask_0 e
  have hl := listed_20 (open_listed ho)
  have hp := up_pb (G := G) r lt h ho hlt ((nums r).length + 1) d [] (Nat.lt_succ_of_le (leftN_le _ _))
  have ev : abE r lt d = (flN (nums r) (fun n => decide (n ∈ upV (tkV r lt) (nums r) ((nums r).length + 1) d [])) (nums r).length, 0) := by rw [abE, if_pos e, flN, List.take_length]; rfl
  rw [ev]
  generalize upV (tkV r lt) (nums r) ((nums r).length + 1) d [] = S at *
  refine PC.nzR (v := .tup [if flN (nums r) (fun n => decide (n ∈ S)) (nums r).length = [] then .nils else .vsl ((flN (nums r) (fun n => decide (n ∈ S)) (nums r).length).map ia), .int .i64 0]) ?_ (by by_cases q : flN (nums r) (fun n => decide (n ∈ S)) (nums r).length = [] <;> simp only [q, if_true, if_false] <;> simp [nz])
  (refine pc_sheet_Above (Nat.le_of_ble_eq_true rfl) fun R hG hrd => GO_AR mixed 1000 ?_; subst hG)
  simp -implicitDefEqProofs [rc_sheet_Above, rr_sheet_Above, rega]
  (first | refine CallK.of (taken_pc hG r lt d h) (by simp) ?_ | refine CallD.of (taken_pc hG r lt d h) (by simp) ?_)
  simp -implicitDefEqProofs [takA, e, one_byA, bkA, byA]
  refine CallK.sem (CallSem.byref hp (fun k => k - 1000) (by simp [abO]) (by simp [abO]) (by simp [abO, St.get, lk, AObj.ren, AV.ren, ren_byA, ren_bkA, map_lfA, byA, bkA]; try simp [lfA]) (abO_in _ _ _) (by simp [abO, keptA, AV.keys, lk]) rfl (by simp [AV.ren]) rfl rfl) ?_
  simp -implicitDefEqProofs [setsB, abO, AObj.ren, AV.ren, ren_byA, ren_bkA, map_lfA, bkA]
  refine AR_for (abF (nums r) S) (fun _ => True) (nums r).length ?_ trivial ?_ ?_
  · have e0 : flN (nums r) (fun n => decide (n ∈ S)) 0 = [] := rfl
    simp only [abF, e0, if_true]
    ((try simp only [byA]); refine Weak.sub (by simp [lk, keptA, AV.keys, byA]) ?_; simp only [byA, List.cons_append, List.nil_append, List.mem_cons, List.not_mem_nil, or_false, forall_eq_or_imp, forall_eq, kept_lfA, and_true]; (try simp [lk, keptO, keptA, AV.keys, byA]))
  · intro i hi _
    refine GO_AR mixed 1000 ?_
    have w1 : IntKind.i64.wrap ((i : Int) + 1) = ((i + 1 : Nat) : Int) := wrapI (by omega) (by omega)
    have gl := get_lf (nums r)[i] S
    have hs := flN_succ (g := fun n => decide (n ∈ S)) hi
    have bl := flN_len (nums r) (fun n => decide (n ∈ S)) i
    have hA : ∀ i, abF (nums r) S i = if flN (nums r) (fun n => decide (n ∈ S)) i = [] then ⟨[(37, .int .i64 i), (36, .int .i64 (nums r).length), (35, .vsl ((nums r).map ia)), (11, .ptr 11 0), (13, .nils)], [(11, .box [.mp 27]), (27, .mp (lfA S))]⟩
      else ⟨[(37, .int .i64 i), (36, .int .i64 (nums r).length), (35, .vsl ((nums r).map ia)), (11, .ptr 11 0), (13, .osl 47 (flN (nums r) (fun n => decide (n ∈ S)) i).length)], [(11, .box [.mp 27]), (27, .mp (lfA S)), (47, .row 1 ((flN (nums r) (fun n => decide (n ∈ S)) i).map ia))]⟩ := fun _ => rfl
    simp only [decide_eq_true_eq] at hs
    generalize flN (nums r) (fun n => decide (n ∈ S)) = F at *
    have bb : ((F i).length + 1) * 8 ≤ 70368744177664 := by omega
    by_cases q : (nums r)[i] ∈ S
    · rw [if_pos q] at hs gl
      by_cases z : F i = []
      · rw [z] at hs
        simp -implicitDefEqProofs [hA, z, hi, ia, gl, w1, hs]
        ((try simp only [ia]); refine Weak.sub (by simp [lk, keptA, AV.keys, ia]) ?_; simp only [ia, List.cons_append, List.nil_append, List.mem_cons, List.not_mem_nil, or_false, forall_eq_or_imp, forall_eq, kept_lfA, ia_kept, and_true]; (try simp [lk, keptO, keptA, AV.keys, ia]))
      · simp -implicitDefEqProofs [hA, z, hi, ia, gl, w1, hs, bb]
        ((try simp only [ia]); refine Weak.sub (by simp [lk, keptA, AV.keys, ia]) ?_; simp only [ia, List.cons_append, List.nil_append, List.mem_cons, List.not_mem_nil, or_false, forall_eq_or_imp, forall_eq, kept_lfA, ia_kept, and_true]; (try simp [lk, keptO, keptA, AV.keys, ia]))
    · rw [if_neg q] at hs gl
      by_cases z : F i = []
      · rw [z] at hs
        simp -implicitDefEqProofs [hA, z, hi, ia, gl, w1, hs]
        ((try simp only [ia]); refine Weak.sub (by simp [lk, keptA, AV.keys, ia]) ?_; simp only [ia, List.cons_append, List.nil_append, List.mem_cons, List.not_mem_nil, or_false, forall_eq_or_imp, forall_eq, kept_lfA, ia_kept, and_true]; (try simp [lk, keptO, keptA, AV.keys, ia]))
      · simp -implicitDefEqProofs [hA, z, hi, ia, gl, w1, hs]
        ((try simp only [ia]); refine Weak.sub (by simp [lk, keptA, AV.keys, ia]) ?_; simp only [ia, List.cons_append, List.nil_append, List.mem_cons, List.not_mem_nil, or_false, forall_eq_or_imp, forall_eq, kept_lfA, ia_kept, and_true]; (try simp [lk, keptO, keptA, AV.keys, ia]))
  · intro _
    refine GO_AR mixed 1000 ?_
    have hA : abF (nums r) S (nums r).length = if flN (nums r) (fun n => decide (n ∈ S)) (nums r).length = [] then ⟨[(37, .int .i64 (nums r).length), (36, .int .i64 (nums r).length), (35, .vsl ((nums r).map ia)), (11, .ptr 11 0), (13, .nils)], [(11, .box [.mp 27]), (27, .mp (lfA S))]⟩
      else ⟨[(37, .int .i64 (nums r).length), (36, .int .i64 (nums r).length), (35, .vsl ((nums r).map ia)), (11, .ptr 11 0), (13, .osl 47 (flN (nums r) (fun n => decide (n ∈ S)) (nums r).length).length)], [(11, .box [.mp 27]), (27, .mp (lfA S)), (47, .row 1 ((flN (nums r) (fun n => decide (n ∈ S)) (nums r).length).map ia))]⟩ := rfl
    generalize flN (nums r) (fun n => decide (n ∈ S)) (nums r).length = F at *
    by_cases z : F = []
    · simp -implicitDefEqProofs [hA, z]
      refine GO_ret mixed 1000 ?_
      simp -implicitDefEqProofs [z]
    · have pu : (F.map ia).all (fun r => r.all AV.pure) = true := by simp [ia, AV.pure]
      simp -implicitDefEqProofs [hA, z]
      refine GO_ret mixed 1000 ?_
      simp -implicitDefEqProofs [z, pu]
end
end Go.Proofs.YtdpmioiamcgfkaaDoor

/-! How two issues differ: what the program's Differ computes. -/
namespace Go.Proofs.YtdpmioiamcgfkaaDoor
open Go.RowKit

/-! Maps by drawings, where values are put anew. -/
def mpP {α : Type} (n : Int) (v : α) : List (Int × α) → List (Int × α)
  | [] => [(n, v)]
  | p :: l => if n = p.1 then (n, v) :: l else p :: mpP n v l
theorem mlk_mpP {α : Type} (n : Int) (v : α) : ∀ (l : List (Int × α)) (m : Int), mlk m (mpP n v l) = if m = n then some v else mlk m l
  | [], m => by simp [mpP, mlk]
  | p :: l, m => by
    have ih := mlk_mpP n v l m
    simp only [mpP]
    by_cases e : n = p.1
    · rw [if_pos e]
      simp only [mlk]
      by_cases e2 : m = n
      · rw [if_pos e2, if_pos e2]
      · rw [if_neg e2, if_neg e2, if_neg (by rw [← e]; exact e2)]
    · rw [if_neg e]
      simp only [mlk]
      by_cases e2 : m = p.1
      · rw [if_pos e2, if_pos e2, if_neg (by rintro rfl; exact e e2)]
      · rw [if_neg e2, if_neg e2]; exact ih
theorem find_mpP {α : Type} (f : α → AV) (n : Int) (v : α) : ∀ l : List (Int × α), ∃ o : Option Nat, (KK.i .i64).find (.int .i64 n) (mpA f l) = some o ∧ match o with
    | some j => mpP n v l = l.set j (n, v)
    | none => mpP n v l = l ++ [(n, v)]
  | [] => ⟨none, rfl, rfl⟩
  | p :: r => by
    obtain ⟨o, h1, h2⟩ := find_mpP f n v r
    by_cases e : n = p.1
    · exact ⟨some 0, by simp [mpA, KK.find, KK.eq, e], by simp [mpP, e]⟩
    · refine ⟨o.map (· + 1), ?_, ?_⟩
      · simp only [mpA, List.map_cons, KK.find, KK.eq, and_self, if_true, e, decide_false]
        rw [show r.map (fun p => (AV.int .i64 p.1, f p.2)) = mpA f r from rfl, h1]; rfl
      · cases o with
        | none => simp only [Option.map_none, mpP, if_neg e, h2]; rfl
        | some j => simp only [Option.map_some, mpP, if_neg e, h2]; rfl
theorem put_mpP {α : Type} (f : α → AV) (n : Int) (v : α) (l : List (Int × α)) : (KK.i .i64).put (.int .i64 n) (f v) (mpA f l) = some (mpA f (mpP n v l)) := by
  obtain ⟨o, h1, h2⟩ := find_mpP f n v l
  have hi : (KK.i .i64).is (.int .i64 n) = true := by simp [KK.is]
  unfold KK.put
  rw [if_pos hi, h1]
  cases o with
  | none => simp only [h2]; simp [mpA]
  | some j => rw [h2]; simp [mpA, List.map_set]
/-- A change, as a value. -/
def dA (d : Dm) : AV := .agg (dma d)
theorem kept_dA (o : List (Nat × AObj)) (l : List (Int × Dm)) : keptO o (.mp (mpA dA l)) = true := by
  simp only [keptO, List.all_eq_true, mpA, List.mem_map]
  rintro _ ⟨y, -, rfl⟩
  simp [dA, dma, keptA, AV.keys]

/-- A map tells how often drawings are items of both. -/
def Cnt (l : List (Int × Dm)) (f g : Int → Int) : Prop := ∀ n, (mlk n l = none ∧ f n = 0 ∧ g n = 0) ∨ mlk n l = some ⟨n, f n, g n⟩
theorem ct_take {l : List (Int × Int)} (hn : (l.map (·.1)).Nodup) {i : Nat} (h : i < l.length) (n : Int) : ctL n (l.take (i + 1)) = if n = l[i].1 then l[i].2 else ctL n (l.take i) := by
  have app : ∀ (l1 : List (Int × Int)) (y : Int × Int), y.1 ∉ l1.map (·.1) → ctL n (l1 ++ [y]) = if n = y.1 then y.2 else ctL n l1 := by
    intro l1 y
    induction l1 with
    | nil =>
      intro _
      simp only [List.nil_append, ctL]
      by_cases e : n = y.1
      · rw [if_pos e, if_pos e.symm]
      · rw [if_neg e, if_neg fun q => e q.symm]
    | cons z l1 ih =>
      intro h
      simp only [List.map_cons, List.mem_cons, not_or] at h
      simp only [List.cons_append, ctL, ih h.2]
      by_cases e : z.1 = n
      · rw [if_pos e, if_pos e, if_neg (fun q => h.1 (by rw [e, q]))]
      · rw [if_neg e, if_neg e]
  rw [List.take_succ_eq_append_getElem h]
  refine app _ _ fun hm => ?_
  obtain ⟨y, hy, e⟩ := List.mem_map.1 hm
  obtain ⟨j, hj, rfl⟩ := List.getElem_of_mem hy
  simp only [List.length_take] at hj
  simp only [List.getElem_take] at e
  have h1 := List.pairwise_iff_getElem.1 hn j i (by simp; omega) (by simpa using h) (by omega)
  simp only [List.getElem_map] at h1
  exact h1 e
/-- The first loop's map, and the second one's. -/
def by1 (its : List (Int × Int)) (i : Nat) : List (Int × Dm) := (its.take i).foldl (fun l y => mpP y.1 ⟨y.1, y.2, 0⟩ l) []
def by2 (l : List (Int × Dm)) (its : List (Int × Int)) (i : Nat) : List (Int × Dm) := (its.take i).foldl (fun l y => mpP y.1 ⟨y.1, ((mlk y.1 l).getD Dm.zero).l, y.2⟩ l) l
theorem by1_succ {its : List (Int × Int)} {i : Nat} (h : i < its.length) : by1 its (i + 1) = mpP its[i].1 ⟨its[i].1, its[i].2, 0⟩ (by1 its i) := fold_take _ _ _ _ h
theorem by2_succ {l : List (Int × Dm)} {its : List (Int × Int)} {i : Nat} (h : i < its.length) : by2 l its (i + 1) = mpP its[i].1 ⟨its[i].1, ((mlk its[i].1 (by2 l its i)).getD Dm.zero).l, its[i].2⟩ (by2 l its i) := fold_take (fun (l : List (Int × Dm)) (y : Int × Int) => mpP y.1 ⟨y.1, ((mlk y.1 l).getD Dm.zero).l, y.2⟩ l) _ _ _ h
theorem by1_cnt {its : List (Int × Int)} (hn : (its.map (·.1)).Nodup) : ∀ i, i ≤ its.length → Cnt (by1 its i) (fun n => ctL n (its.take i)) fun _ => 0
  | 0, _ => fun n => .inl ⟨rfl, by simp [ctL], rfl⟩
  | i + 1, hi => fun n => by
    have hlt : i < its.length := by omega
    have ih := by1_cnt hn i (by omega) n
    rw [by1_succ hlt, mlk_mpP]
    simp only [ct_take hn hlt n]
    by_cases e : n = its[i].1
    · rw [if_pos e, if_pos e]; exact .inr (by rw [e])
    · rw [if_neg e, if_neg e]; simpa using ih
theorem by2_cnt {l : List (Int × Dm)} {f : Int → Int} (h0 : Cnt l f fun _ => 0) {its : List (Int × Int)} (hn : (its.map (·.1)).Nodup) : ∀ i, i ≤ its.length → Cnt (by2 l its i) f fun n => ctL n (its.take i)
  | 0, _ => fun n => by have := h0 n; simpa [by2, ctL] using this
  | i + 1, hi => fun n => by
    have hlt : i < its.length := by omega
    have ih := by2_cnt h0 hn i (by omega)
    rw [by2_succ hlt, mlk_mpP]
    simp only [ct_take hn hlt n]
    by_cases e : n = its[i].1
    · rw [if_pos e, if_pos e]
      refine .inr ?_
      rcases ih its[i].1 with ⟨h1, h2, -⟩ | h1
      · rw [h1, e, h2]; rfl
      · rw [h1, e]; rfl
    · rw [if_neg e, if_neg e]; exact ih n

/-- The states of the program's loops. -/
def f1S (r : List Iss) (a b : Iss) (l : List (Int × Dm)) (i : Nat) : St := ⟨[(59, .int .i64 i), (58, .int .i64 a.its.length), (57, .vsl (a.its.map ita)), (16, .mp 55), (11, bkA r (nums r)), (12, .ptr 12 0), (14, .ptr 14 0), (8, .nils), (9, .nils)], [(12, .box (isa a)), (14, .box (isa b)), (55, .mp (mpA dA l))]⟩
def f2S (r : List Iss) (a b : Iss) (l : List (Int × Dm)) (i : Nat) : St := ⟨[(75, .int .i64 i), (74, .int .i64 b.its.length), (73, .vsl (b.its.map ita)), (16, .mp 55), (11, bkA r (nums r)), (12, .ptr 12 0), (14, .ptr 14 0), (8, .nils), (9, .nils)], [(12, .box (isa a)), (14, .box (isa b)), (55, .mp (mpA dA l))]⟩
def f3S (l : List Int) (a b : Iss) (m : List (Int × Dm)) (D : List Dm) (i : Nat) : St := if D = [] then ⟨[(98, .int .i64 i), (97, .int .i64 l.length), (96, .vsl (l.map ia)), (16, .mp 55), (12, .ptr 12 0), (14, .ptr 14 0), (8, .nils), (9, .nils)], [(12, .box (isa a)), (14, .box (isa b)), (55, .mp (mpA dA m))]⟩
  else ⟨[(98, .int .i64 i), (97, .int .i64 l.length), (96, .vsl (l.map ia)), (16, .mp 55), (12, .ptr 12 0), (14, .ptr 14 0), (8, .osl 113 D.length), (9, .nils)], [(12, .box (isa a)), (14, .box (isa b)), (55, .mp (mpA dA m)), (113, .row 3 (D.map dma))]⟩
def f4S (C : AV) (a b : Iss) (i : Nat) : St := if dsN a.dms b.dms i = [] then ⟨[(122, .int .i64 i), (121, .int .i64 (max a.dms.length b.dms.length : Nat)), (8, C), (9, .nils), (12, .ptr 12 0), (14, .ptr 14 0)], [(12, .box (isa a)), (14, .box (isa b))]⟩
  else ⟨[(122, .int .i64 i), (121, .int .i64 (max a.dms.length b.dms.length : Nat)), (8, C), (9, .osl 150 (dsN a.dms b.dms i).length), (12, .ptr 12 0), (14, .ptr 14 0)], [(12, .box (isa a)), (14, .box (isa b)), (150, .row 1 ((dsN a.dms b.dms i).map ia))]⟩
theorem cnt_ch {l : List (Int × Dm)} {f g : Int → Int} (h : Cnt l f g) (n : Int) : ((mlk n l).getD Dm.zero).l = f n ∧ ((mlk n l).getD Dm.zero).u = g n ∧ (f n ≠ g n → mlk n l = some ⟨n, f n, g n⟩) := by
  rcases h n with ⟨h1, h2, h3⟩ | h1
  · rw [h1, h2, h3]; exact ⟨rfl, rfl, fun h => absurd rfl h⟩
  · rw [h1]; exact ⟨rfl, rfl, fun _ => rfl⟩

section
variable {G : Nat → Option (List AV)}

set_option maxRecDepth 4000 in
set_option maxHeartbeats 4000000 in
theorem differP_pc (hG : GC G) (r : List Iss) (d n m : Int) (h : Wf r) : PC Tryd.prog G 44 [rega r, .int .i64 d, .int .i64 n, .int .i64 m] (.tup [.vsl ((difE r d n m).1.map dma), .vsl ((difE r d n m).2.1.map ia), .int .i64 (difE r d n m).2.2]) := by
  by_cases e : openV r = 0
  case neg =>
    refine PC.nzR (v := .tup [.nils, .nils, .int .i64 (openV r)]) ?_ (by simp [nz, difE, e])
    (refine pc_sheet_Differ (Nat.le_of_ble_eq_true rfl) fun R hG hrd => GO_AR mixed 1000 ?_; subst hG)
    simp -implicitDefEqProofs [rc_sheet_Differ, rr_sheet_Differ, rega]
    (first | refine CallK.of (open_pc hG r h) (by simp) ?_ | refine CallD.of (open_pc hG r h) (by simp) ?_)
    simp -implicitDefEqProofs [openA, e]
  have hL := open_listed e
  have hO := ord_of hL
  have hl := listed_20 hL
  cases fa : findN d n r with
  | none =>
    have ev : difE r d n m = ([], [], 6) := by simp [difE, e, fa]
    refine PC.nzR (v := .tup [.nils, .nils, .int .i64 6]) ?_ (by simp [nz, ev])
    (refine pc_sheet_Differ (Nat.le_of_ble_eq_true rfl) fun R hG hrd => GO_AR mixed 1000 ?_; subst hG)
    simp -implicitDefEqProofs [rc_sheet_Differ, rr_sheet_Differ, rega]
    (first | refine CallK.of (open_pc hG r h) (by simp) ?_ | refine CallD.of (open_pc hG r h) (by simp) ?_)
    simp -implicitDefEqProofs [openA, e]
    (first | refine CallK.of (find_pcS r (nums r) d n (ord_map hO) h.1.1 (find_own hL)) (by simp) ?_ | refine CallD.of (find_pcS r (nums r) d n (ord_map hO) h.1.1 (find_own hL)) (by simp) ?_)
    simp -implicitDefEqProofs [fa, fndA, noIs]
    (first | refine CallK.of (find_pcS r (nums r) d m (ord_map hO) h.1.1 (find_own hL)) (by simp) ?_ | refine CallD.of (find_pcS r (nums r) d m (ord_map hO) h.1.1 (find_own hL)) (by simp) ?_)
    cases fb : findN d m r <;> simp -implicitDefEqProofs [fb, fndA, noIs, isa]
  | some a =>
  cases fb : findN d m r with
  | none =>
    have ev : difE r d n m = ([], [], 6) := by simp [difE, e, fa, fb]
    refine PC.nzR (v := .tup [.nils, .nils, .int .i64 6]) ?_ (by simp [nz, ev])
    (refine pc_sheet_Differ (Nat.le_of_ble_eq_true rfl) fun R hG hrd => GO_AR mixed 1000 ?_; subst hG)
    simp -implicitDefEqProofs [rc_sheet_Differ, rr_sheet_Differ, rega]
    (first | refine CallK.of (open_pc hG r h) (by simp) ?_ | refine CallD.of (open_pc hG r h) (by simp) ?_)
    simp -implicitDefEqProofs [openA, e]
    (first | refine CallK.of (find_pcS r (nums r) d n (ord_map hO) h.1.1 (find_own hL)) (by simp) ?_ | refine CallD.of (find_pcS r (nums r) d n (ord_map hO) h.1.1 (find_own hL)) (by simp) ?_)
    simp -implicitDefEqProofs [fa, fndA, isa]
    (first | refine CallK.of (find_pcS r (nums r) d m (ord_map hO) h.1.1 (find_own hL)) (by simp) ?_ | refine CallD.of (find_pcS r (nums r) d m (ord_map hO) h.1.1 (find_own hL)) (by simp) ?_)
    simp -implicitDefEqProofs [fb, fndA, noIs]
  | some b =>
  have ha := h.1.2 a (findN_mem fa).1
  have hb := h.1.2 b (findN_mem fb).1
  have na := its_nodup (listed_iss hL (findN_mem fa).1)
  have nb := its_nodup (listed_iss hL (findN_mem fb).1)
  have h8a := (iss_kind (listed_iss hL (findN_mem fa).1)).2.2.1
  have h8b := (iss_kind (listed_iss hL (findN_mem fb).1)).2.2.1
  have ev : difE r d n m = (dfN (nums r) (fun n => ctL n a.its) (fun n => ctL n b.its) (nums r).length, dsN a.dms b.dms (max a.dms.length b.dms.length), 0) := by simp [difE, e, fa, fb]
  rw [ev]
  refine PC.nzR (v := .tup [orNil ((dfN (nums r) (fun n => ctL n a.its) (fun n => ctL n b.its) (nums r).length).map dma), orNil ((dsN a.dms b.dms (max a.dms.length b.dms.length)).map ia), .int .i64 0]) ?_ (by simp only [nz_tup, List.map_cons, List.map_nil, nz_orNil]; simp [nz])
  (refine pc_sheet_Differ (Nat.le_of_ble_eq_true rfl) fun R hG hrd => GO_AR mixed 1000 ?_; subst hG)
  simp -implicitDefEqProofs [rc_sheet_Differ, rr_sheet_Differ, rega]
  (first | refine CallK.of (open_pc hG r h) (by simp) ?_ | refine CallD.of (open_pc hG r h) (by simp) ?_)
  simp -implicitDefEqProofs [openA, e]
  (first | refine CallK.of (find_pcS r (nums r) d n (ord_map hO) h.1.1 (find_own hL)) (by simp) ?_ | refine CallD.of (find_pcS r (nums r) d n (ord_map hO) h.1.1 (find_own hL)) (by simp) ?_)
  simp -implicitDefEqProofs [fa, fndA, isa]
  (first | refine CallK.of (find_pcS r (nums r) d m (ord_map hO) h.1.1 (find_own hL)) (by simp) ?_ | refine CallD.of (find_pcS r (nums r) d m (ord_map hO) h.1.1 (find_own hL)) (by simp) ?_)
  simp -implicitDefEqProofs [fb, fndA, isa]
  refine AR_for (fun i => f1S r a b (by1 a.its i) i) (fun _ => True) a.its.length ?_ trivial ?_ ?_
  · ((try simp only [f1S, isa, by1, List.take_zero, List.foldl_nil, mpA, List.map_nil, bkA]); refine Weak.sub (by simp [lk, keptA, AV.keys, f1S, isa, by1, List.take_zero, List.foldl_nil, mpA, List.map_nil, bkA]) ?_; simp only [f1S, isa, by1, List.take_zero, List.foldl_nil, mpA, List.map_nil, bkA, List.cons_append, List.nil_append, List.mem_cons, List.not_mem_nil, or_false, forall_eq_or_imp, forall_eq, kept_dA, and_true]; (try simp [lk, keptO, keptA, AV.keys, f1S, isa, by1, List.take_zero, List.foldl_nil, mpA, List.map_nil, bkA]))
  · intro i hi _
    refine GO_AR mixed 1000 ?_
    have w1 : IntKind.i64.wrap ((i : Int) + 1) = ((i + 1 : Nat) : Int) := wrapI (by omega) (by omega)
    have pm := put_mpP dA a.its[i].1 ⟨a.its[i].1, a.its[i].2, 0⟩ (by1 a.its i)
    rw [← by1_succ hi, dA, dma] at pm
    simp -implicitDefEqProofs [f1S, hi, ita, pm, w1]
    ((try simp only [f1S, isa, bkA]); refine Weak.sub (by simp [lk, keptA, AV.keys, f1S, isa, bkA]) ?_; simp only [f1S, isa, bkA, List.cons_append, List.nil_append, List.mem_cons, List.not_mem_nil, or_false, forall_eq_or_imp, forall_eq, kept_dA, and_true]; (try simp [lk, keptO, keptA, AV.keys, f1S, isa, bkA]))
  intro _
  refine GO_AR mixed 1000 ?_
  simp -implicitDefEqProofs [f1S, isa]
  refine GO_ret mixed 1000 ?_
  simp -implicitDefEqProofs []
  refine AR_for (fun i => f2S r a b (by2 (by1 a.its a.its.length) b.its i) i) (fun _ => True) b.its.length ?_ trivial ?_ ?_
  · ((try simp only [f2S, isa, by2, List.take_zero, List.foldl_nil, bkA]); refine Weak.sub (by simp [lk, keptA, AV.keys, f2S, isa, by2, List.take_zero, List.foldl_nil, bkA]) ?_; simp only [f2S, isa, by2, List.take_zero, List.foldl_nil, bkA, List.cons_append, List.nil_append, List.mem_cons, List.not_mem_nil, or_false, forall_eq_or_imp, forall_eq, kept_dA, and_true]; (try simp [lk, keptO, keptA, AV.keys, f2S, isa, by2, List.take_zero, List.foldl_nil, bkA]))
  · intro i hi _
    refine GO_AR mixed 1000 ?_
    have w1 : IntKind.i64.wrap ((i : Int) + 1) = ((i + 1 : Nat) : Int) := wrapI (by omega) (by omega)
    have bs := by2_succ (l := by1 a.its a.its.length) hi
    generalize by2 (by1 a.its a.its.length) b.its i = L at *
    have pm := put_mpP dA b.its[i].1 ⟨b.its[i].1, ((mlk b.its[i].1 L).getD Dm.zero).l, b.its[i].2⟩ L
    rw [← bs, dA, dma] at pm
    have gm := get_mp dA b.its[i].1 L
    cases q : mlk b.its[i].1 L with
    | none =>
      rw [q] at gm pm
      simp only [Option.getD_none, Dm.zero] at pm
      simp -implicitDefEqProofs [f2S, hi, ita, gm, pm, w1]
      ((try simp only [f2S, isa, bkA]); refine Weak.sub (by simp [lk, keptA, AV.keys, f2S, isa, bkA]) ?_; simp only [f2S, isa, bkA, List.cons_append, List.nil_append, List.mem_cons, List.not_mem_nil, or_false, forall_eq_or_imp, forall_eq, kept_dA, and_true]; (try simp [lk, keptO, keptA, AV.keys, f2S, isa, bkA]))
    | some v =>
      rw [q] at gm pm
      simp only [Option.getD_some] at pm
      simp -implicitDefEqProofs [f2S, hi, ita, gm, dA, dma, pm, w1]
      ((try simp only [f2S, isa, bkA]); refine Weak.sub (by simp [lk, keptA, AV.keys, f2S, isa, bkA]) ?_; simp only [f2S, isa, bkA, List.cons_append, List.nil_append, List.mem_cons, List.not_mem_nil, or_false, forall_eq_or_imp, forall_eq, kept_dA, and_true]; (try simp [lk, keptO, keptA, AV.keys, f2S, isa, bkA]))
  intro _
  refine GO_AR mixed 1000 ?_
  have hC := by2_cnt (by1_cnt na _ (Nat.le_refl _)) nb _ (Nat.le_refl b.its.length)
  simp only [List.take_length] at hC
  generalize by2 (by1 a.its a.its.length) b.its b.its.length = M at *
  simp -implicitDefEqProofs [f2S, isa]
  refine GO_ret mixed 1000 ?_
  simp -implicitDefEqProofs [bkA]
  refine AR_for (fun i => f3S (nums r) a b M (dfN (nums r) (fun n => ctL n a.its) (fun n => ctL n b.its) i) i) (fun _ => True) (nums r).length ?_ trivial ?_ ?_
  · have e0 : dfN (nums r) (fun n => ctL n a.its) (fun n => ctL n b.its) 0 = [] := rfl
    simp only [f3S, e0, if_true]
    ((try simp only [isa]); refine Weak.sub (by simp [lk, keptA, AV.keys, isa]) ?_; simp only [isa, List.cons_append, List.nil_append, List.mem_cons, List.not_mem_nil, or_false, forall_eq_or_imp, forall_eq, kept_dA, and_true]; (try simp [lk, keptO, keptA, AV.keys, isa]))
  · intro i hi _
    refine GO_AR mixed 1000 ?_
    have w1 : IntKind.i64.wrap ((i : Int) + 1) = ((i + 1 : Nat) : Int) := wrapI (by omega) (by omega)
    have hs := dfN_succ (f := fun n => ctL n a.its) (g := fun n => ctL n b.its) hi
    have bl := dfN_len (nums r) (fun n => ctL n a.its) (fun n => ctL n b.its) i
    obtain ⟨c1, c2, c3⟩ := cnt_ch hC (nums r)[i]
    have gm := get_mp dA (nums r)[i] M
    generalize dfN (nums r) (fun n => ctL n a.its) (fun n => ctL n b.its) i = D at *
    have bb : (D.length + 1) * 24 ≤ 70368744177664 := by omega
    by_cases q : ctL (nums r)[i] a.its = ctL (nums r)[i] b.its
    · rw [if_pos q] at hs
      rw [← c1, ← c2] at q
      cases k : mlk (nums r)[i] M with
      | none =>
        rw [k] at gm
        by_cases z : D = []
        · simp -implicitDefEqProofs [f3S, z, hi, ia, gm, w1]
          simp only [f3S, hs, z, if_true]
          ((try simp only [isa]); refine Weak.sub (by simp [lk, keptA, AV.keys, isa]) ?_; simp only [isa, List.cons_append, List.nil_append, List.mem_cons, List.not_mem_nil, or_false, forall_eq_or_imp, forall_eq, dma_kept, kept_dA, and_true]; (try simp [lk, keptO, keptA, AV.keys, isa]))
        · simp -implicitDefEqProofs [f3S, z, hi, ia, gm, w1]
          simp only [f3S, hs, z, if_false]
          ((try simp only [isa]); refine Weak.sub (by simp [lk, keptA, AV.keys, isa]) ?_; simp only [isa, List.cons_append, List.nil_append, List.mem_cons, List.not_mem_nil, or_false, forall_eq_or_imp, forall_eq, dma_kept, kept_dA, and_true]; (try simp [lk, keptO, keptA, AV.keys, isa]))
      | some v =>
        rw [k] at gm q
        simp only [Option.getD_some] at q
        by_cases z : D = []
        · simp -implicitDefEqProofs [f3S, z, hi, ia, gm, dA, dma, q, w1]
          simp only [f3S, hs, z, if_true]
          ((try simp only [isa]); refine Weak.sub (by simp [lk, keptA, AV.keys, isa]) ?_; simp only [isa, List.cons_append, List.nil_append, List.mem_cons, List.not_mem_nil, or_false, forall_eq_or_imp, forall_eq, dma_kept, kept_dA, and_true]; (try simp [lk, keptO, keptA, AV.keys, isa]))
        · simp -implicitDefEqProofs [f3S, z, hi, ia, gm, dA, dma, q, w1]
          simp only [f3S, hs, z, if_false]
          ((try simp only [isa]); refine Weak.sub (by simp [lk, keptA, AV.keys, isa]) ?_; simp only [isa, List.cons_append, List.nil_append, List.mem_cons, List.not_mem_nil, or_false, forall_eq_or_imp, forall_eq, dma_kept, kept_dA, and_true]; (try simp [lk, keptO, keptA, AV.keys, isa]))
    · rw [if_neg q] at hs
      have k := c3 q
      rw [k] at gm
      by_cases z : D = []
      · simp -implicitDefEqProofs [f3S, z, hi, ia, gm, dA, dma, q, w1]
        simp only [f3S, hs, z, List.nil_append, List.cons_ne_nil, if_false]
        ((try simp only [isa, dma]); refine Weak.sub (by simp [lk, keptA, AV.keys, isa, dma]) ?_; simp only [isa, dma, List.cons_append, List.nil_append, List.mem_cons, List.not_mem_nil, or_false, forall_eq_or_imp, forall_eq, dma_kept, kept_dA, and_true]; (try simp [lk, keptO, keptA, AV.keys, isa, dma]))
      · simp -implicitDefEqProofs [f3S, z, hi, ia, gm, dA, dma, q, w1, bb]
        simp only [f3S, hs, List.append_eq_nil_iff, List.cons_ne_nil, and_false, if_false]
        ((try simp only [isa, dma]); refine Weak.sub (by simp [lk, keptA, AV.keys, isa, dma]) ?_; simp only [isa, dma, List.cons_append, List.nil_append, List.mem_cons, List.not_mem_nil, or_false, forall_eq_or_imp, forall_eq, dma_kept, kept_dA, and_true]; (try simp [lk, keptO, keptA, AV.keys, isa, dma]))
  intro _
  refine GO_AR mixed 1000 ?_
  obtain ⟨C, hC⟩ : ∃ C, C = orNil ((dfN (nums r) (fun n => ctL n a.its) (fun n => ctL n b.its) (nums r).length).map dma) := ⟨_, rfl⟩
  have hCk : C.keys = [] := by rw [hC]; exact orNil_keys _
  have hCs : ∀ ok st n, snapF ok st n C = some C := by rw [hC]; exact orNil_snap _
  have hmx : max (a.dms.length : Int) (b.dms.length : Int) = ((max a.dms.length b.dms.length : Nat) : Int) := by omega
  have key : ∀ st : St, Weak st (f4S C a b 0) → AR Tryd.prog R (endLp (headS (dropS 10 rc_sheet_Differ))) st (RetP Tryd.prog R [KF.bk 6, KF.sq (dropS 11 rc_sheet_Differ)] (Fin rr_sheet_Differ (.tup [C, orNil ((dsN a.dms b.dms (max a.dms.length b.dms.length)).map ia), .int .i64 0]))) := by
    intro st hw
    refine AR_for (f4S C a b) (fun _ => True) (max a.dms.length b.dms.length) hw trivial ?_ ?_
    · intro i hi _
      refine GO_AR mixed 1000 ?_
      have hza := ha.2
      have hzb := hb.2
      unfold Sml at hza hzb
      have w1 : IntKind.i64.wrap ((i : Int) + 1) = ((i + 1 : Nat) : Int) := wrapI (by omega) (by omega)
      have hs := dsN_succ (a := a.dms) (b := b.dms) (i := i)
      have bl := dsN_len a.dms b.dms i
      have bb : ((dsN a.dms b.dms i).length + 1) * 8 ≤ 70368744177664 := by omega
      by_cases ca : i < a.dms.length
      · by_cases cb : i < b.dms.length
        · have cm : ¬ min (a.dms.length : Int) (b.dms.length : Int) ≤ (i : Int) := by omega
          rw [dsB_at ca cb] at hs
          by_cases q : a.dms[i] = b.dms[i]
          · rw [if_neg (by simp [q])] at hs
            by_cases z : dsN a.dms b.dms i = []
            · rw [z] at hs
              simp -implicitDefEqProofs [endLp, headS, dropS, rc_sheet_Differ, f4S, z, isa, dma, ca, cb, cm, q, hi, w1]
              refine ⟨rfl, ?_⟩
              simp only [f4S, hs, z, if_true, if_false]
              ((try simp only [isa, hCk, ia]); refine Weak.sub (by simp [lk, keptA, AV.keys, isa, hCk, ia]) ?_; simp only [isa, hCk, ia, List.cons_append, List.nil_append, List.mem_cons, List.not_mem_nil, or_false, forall_eq_or_imp, forall_eq, ia_kept, and_true]; (try simp [lk, keptO, keptA, AV.keys, isa, hCk, ia]))
            · simp -implicitDefEqProofs [endLp, headS, dropS, rc_sheet_Differ, f4S, z, isa, dma, ca, cb, cm, q, hi, w1]
              refine ⟨rfl, ?_⟩
              simp only [f4S, hs, z, if_true, if_false]
              ((try simp only [isa, hCk, ia]); refine Weak.sub (by simp [lk, keptA, AV.keys, isa, hCk, ia]) ?_; simp only [isa, hCk, ia, List.cons_append, List.nil_append, List.mem_cons, List.not_mem_nil, or_false, forall_eq_or_imp, forall_eq, ia_kept, and_true]; (try simp [lk, keptO, keptA, AV.keys, isa, hCk, ia]))
          · rw [if_pos (by simp [q])] at hs
            by_cases z : dsN a.dms b.dms i = []
            · rw [z] at hs
              simp -implicitDefEqProofs [endLp, headS, dropS, rc_sheet_Differ, f4S, z, isa, dma, ca, cb, cm, hi]
              refine ⟨rfl, ?_⟩
              rw [dm_ne q]
              simp -implicitDefEqProofs [w1]
              simp only [f4S, hs, List.nil_append, List.append_eq_nil_iff, List.cons_ne_nil, and_false, if_false]
              ((try simp only [isa, hCk, ia]); refine Weak.sub (by simp [lk, keptA, AV.keys, isa, hCk, ia]) ?_; simp only [isa, hCk, ia, List.cons_append, List.nil_append, List.mem_cons, List.not_mem_nil, or_false, forall_eq_or_imp, forall_eq, ia_kept, and_true]; (try simp [lk, keptO, keptA, AV.keys, isa, hCk, ia]))
            · simp -implicitDefEqProofs [endLp, headS, dropS, rc_sheet_Differ, f4S, z, isa, dma, ca, cb, cm, hi]
              refine ⟨rfl, ?_⟩
              rw [dm_ne q]
              simp -implicitDefEqProofs [w1, bb]
              simp only [f4S, hs, List.nil_append, List.append_eq_nil_iff, List.cons_ne_nil, and_false, if_false]
              ((try simp only [isa, hCk, ia]); refine Weak.sub (by simp [lk, keptA, AV.keys, isa, hCk, ia]) ?_; simp only [isa, hCk, ia, List.cons_append, List.nil_append, List.mem_cons, List.not_mem_nil, or_false, forall_eq_or_imp, forall_eq, ia_kept, and_true]; (try simp [lk, keptO, keptA, AV.keys, isa, hCk, ia]))
        · have cm : min (a.dms.length : Int) (b.dms.length : Int) ≤ (i : Int) := by omega
          have cb2 : b.dms.length ≤ i := by omega
          rw [if_pos (by simp [dsB, cb2])] at hs
          by_cases z : dsN a.dms b.dms i = []
          · rw [z] at hs
            simp -implicitDefEqProofs [endLp, headS, dropS, rc_sheet_Differ, f4S, z, isa, dma, cm, hi, w1]
            refine ⟨rfl, ?_⟩
            simp only [f4S, hs, List.nil_append, List.append_eq_nil_iff, List.cons_ne_nil, and_false, if_false]
            ((try simp only [isa, hCk, ia]); refine Weak.sub (by simp [lk, keptA, AV.keys, isa, hCk, ia]) ?_; simp only [isa, hCk, ia, List.cons_append, List.nil_append, List.mem_cons, List.not_mem_nil, or_false, forall_eq_or_imp, forall_eq, ia_kept, and_true]; (try simp [lk, keptO, keptA, AV.keys, isa, hCk, ia]))
          · simp -implicitDefEqProofs [endLp, headS, dropS, rc_sheet_Differ, f4S, z, isa, dma, cm, hi, bb, w1]
            refine ⟨rfl, ?_⟩
            simp only [f4S, hs, List.nil_append, List.append_eq_nil_iff, List.cons_ne_nil, and_false, if_false]
            ((try simp only [isa, hCk, ia]); refine Weak.sub (by simp [lk, keptA, AV.keys, isa, hCk, ia]) ?_; simp only [isa, hCk, ia, List.cons_append, List.nil_append, List.mem_cons, List.not_mem_nil, or_false, forall_eq_or_imp, forall_eq, ia_kept, and_true]; (try simp [lk, keptO, keptA, AV.keys, isa, hCk, ia]))
      · have cm : min (a.dms.length : Int) (b.dms.length : Int) ≤ (i : Int) := by omega
        have ca2 : a.dms.length ≤ i := by omega
        rw [if_pos (by simp [dsB, ca2])] at hs
        by_cases z : dsN a.dms b.dms i = []
        · rw [z] at hs
          simp -implicitDefEqProofs [endLp, headS, dropS, rc_sheet_Differ, f4S, z, isa, dma, cm, hi, w1]
          refine ⟨rfl, ?_⟩
          simp only [f4S, hs, List.nil_append, List.append_eq_nil_iff, List.cons_ne_nil, and_false, if_false]
          ((try simp only [isa, hCk, ia]); refine Weak.sub (by simp [lk, keptA, AV.keys, isa, hCk, ia]) ?_; simp only [isa, hCk, ia, List.cons_append, List.nil_append, List.mem_cons, List.not_mem_nil, or_false, forall_eq_or_imp, forall_eq, ia_kept, and_true]; (try simp [lk, keptO, keptA, AV.keys, isa, hCk, ia]))
        · simp -implicitDefEqProofs [endLp, headS, dropS, rc_sheet_Differ, f4S, z, isa, dma, cm, hi, bb, w1]
          refine ⟨rfl, ?_⟩
          simp only [f4S, hs, List.nil_append, List.append_eq_nil_iff, List.cons_ne_nil, and_false, if_false]
          ((try simp only [isa, hCk, ia]); refine Weak.sub (by simp [lk, keptA, AV.keys, isa, hCk, ia]) ?_; simp only [isa, hCk, ia, List.cons_append, List.nil_append, List.mem_cons, List.not_mem_nil, or_false, forall_eq_or_imp, forall_eq, ia_kept, and_true]; (try simp [lk, keptO, keptA, AV.keys, isa, hCk, ia]))
    · intro _
      refine GO_AR mixed 1000 ?_
      have hM : ∀ i, f4S C a b i = if dsN a.dms b.dms i = [] then ⟨[(122, .int .i64 i), (121, .int .i64 (max a.dms.length b.dms.length : Nat)), (8, C), (9, .nils), (12, .ptr 12 0), (14, .ptr 14 0)], [(12, .box (isa a)), (14, .box (isa b))]⟩
        else ⟨[(122, .int .i64 i), (121, .int .i64 (max a.dms.length b.dms.length : Nat)), (8, C), (9, .osl 150 (dsN a.dms b.dms i).length), (12, .ptr 12 0), (14, .ptr 14 0)], [(12, .box (isa a)), (14, .box (isa b)), (150, .row 1 ((dsN a.dms b.dms i).map ia))]⟩ := fun _ => rfl
      generalize max a.dms.length b.dms.length = M at *
      by_cases z : dsN a.dms b.dms M = []
      · simp -implicitDefEqProofs [endLp, headS, dropS, rc_sheet_Differ, hM, z, isa]
        refine GO_ret mixed 1000 ?_
        simp -implicitDefEqProofs [dropS, rc_sheet_Differ, rr_sheet_Differ, orNil, hCs]
      · have pu := ia_all (dsN a.dms b.dms M)
        simp -implicitDefEqProofs [endLp, headS, dropS, rc_sheet_Differ, hM, z, isa]
        refine GO_ret mixed 1000 ?_
        simp -implicitDefEqProofs [dropS, rc_sheet_Differ, rr_sheet_Differ, orNil, hCs, z, pu]
  rw [← hC]
  by_cases z : dfN (nums r) (fun n => ctL n a.its) (fun n => ctL n b.its) (nums r).length = []
  · rw [z] at hC
    simp -implicitDefEqProofs [f3S, z, isa]
    refine GO_ret mixed 1000 ?_
    simp -implicitDefEqProofs [hmx]
    refine key _ ?_
    simp only [f4S, hC, orNil, if_true, List.map_nil, dsN, List.range_zero, List.filter_nil]
    (first | exact Weak.tm (by simp [lk, isa]) | exact Weak.sub (by simp [lk, keptA, AV.keys, isa]) (by simp [lk, keptO, keptA, AV.keys, isa]))
  · have pu := dma_all (dfN (nums r) (fun n => ctL n a.its) (fun n => ctL n b.its) (nums r).length)
    simp -implicitDefEqProofs [f3S, z, isa]
    refine GO_ret mixed 1000 ?_
    simp -implicitDefEqProofs [hmx]
    refine key _ (Weak.trans (b := ⟨[(122, .int .i64 0), (121, .int .i64 (max a.dms.length b.dms.length : Nat)), (8, .osl 113 (dfN (nums r) (fun n => ctL n a.its) (fun n => ctL n b.its) (nums r).length).length), (9, .nils), (12, .ptr 12 0), (14, .ptr 14 0)], [(12, .box (isa a)), (14, .box (isa b)), (113, .row 3 ((dfN (nums r) (fun n => ctL n a.its) (fun n => ctL n b.its) (nums r).length).map dma))]⟩) (by ((try simp only [isa]); refine Weak.sub (by simp [lk, keptA, AV.keys, isa]) ?_; simp only [isa, List.cons_append, List.nil_append, List.mem_cons, List.not_mem_nil, or_false, forall_eq_or_imp, forall_eq, dma_kept, and_true]; (try simp [lk, keptO, keptA, AV.keys, isa]))) (Weak.trans (Weak.frz (fun k => k == 113) _) ?_))
    rw [hC]
    generalize dfN (nums r) (fun n => ctL n a.its) (fun n => ctL n b.its) (nums r).length = L at *
    simp only [f4S, orNil, List.map_eq_nil_iff, z, if_false, if_true, List.map_nil, dsN, List.range_zero, List.filter_nil]
    ((try simp only [frzSt, frzA, frzO, frz, snapF, snapL, St.get, pu, isa]); refine Weak.sub (by simp [lk, keptA, AV.keys, frzSt, frzA, frzO, frz, snapF, snapL, St.get, pu, isa]) ?_; simp only [frzSt, frzA, frzO, frz, snapF, snapL, St.get, pu, isa, List.cons_append, List.nil_append, List.mem_cons, List.not_mem_nil, or_false, forall_eq_or_imp, forall_eq, and_true, and_true]; (try simp [lk, keptO, keptA, AV.keys, frzSt, frzA, frzO, frz, snapF, snapL, St.get, pu, isa]))
end
end Go.Proofs.YtdpmioiamcgfkaaDoor

/-! Parts: what the program's Explode computes, as a whole. -/
namespace Go.Proofs.YtdpmioiamcgfkaaDoor
open Go.RowKit

/-- The state of the loop over the drawings. -/
def ptP (r : List Iss) (l : List (Int × Int)) (i : Nat) : St := if ptN (nums r) (mpG l) i = [] then ⟨[(37, .int .i64 i), (36, .int .i64 (nums r).length), (35, .vsl ((nums r).map ia)), (11, .ptr 11 0), (13, .nils)], [(11, .box [.mp 27]), (27, .mp (dpA l))]⟩
  else ⟨[(37, .int .i64 i), (36, .int .i64 (nums r).length), (35, .vsl ((nums r).map ia)), (11, .ptr 11 0), (13, .osl 52 (ptN (nums r) (mpG l) i).length)], [(11, .box [.mp 27]), (27, .mp (dpA l)), (52, .row 2 ((ptN (nums r) (mpG l) i).map ita))]⟩

section
variable {G : Nat → Option (List AV)}

theorem explP_pc (hG : GC G) (r : List Iss) (lt : List Int) (n : Int) (h : Wf r) : PC Tryd.prog G 33 [rega r, .vsl (lt.map ia), .int .i64 n] (.tup [.vsl ((exV r lt n).1.map ita), .int .i64 (exV r lt n).2]) := by
  by_cases e : askV r lt n = 0
  case neg =>
    refine PC.nzR (v := .tup [.nils, .int .i64 (askV r lt n)]) ?_ (by simp [nz, exV, e])
    (refine pc_sheet_Explode (Nat.le_of_ble_eq_true rfl) fun R hG hrd => GO_AR mixed 1000 ?_; subst hG)
    simp -implicitDefEqProofs [rc_sheet_Explode, rr_sheet_Explode, rega]
    (first | refine CallK.of (taken_pc hG r lt n h) (by simp) ?_ | refine CallD.of (taken_pc hG r lt n h) (by simp) ?_)
    simp -implicitDefEqProofs [takA, e]
  obtain ⟨ho, hlt, hn⟩ := ask_0 e
  have hL := open_listed ho
  have hl := listed_20 hL
  have hp := add_pb (G := G) r lt ho hlt 6 n 1 [] hn (dpN_bd ho hn).2
  have hm := paM_eq (T := tkV r lt) (D := nums r) (fun d hd => let q := iss_kind (listed_iss hL (tk_mem hL hlt hd).1); ⟨q.1, q.2.2.2⟩) (fun d hd => tk_its hL hlt hd) 6 n 1 [] hn
  have e0 : mpG [] = fun _ => 0 := by funext x; rfl
  have ev : exV r lt n = (ptN (nums r) (mpG (paM (tkV r lt) 6 n 1 [])) (nums r).length, 0) := by rw [exV, if_pos e, hm, e0]
  rw [ev]
  generalize paM (tkV r lt) 6 n 1 [] = l at *
  refine PC.nzR (v := .tup [if ptN (nums r) (mpG l) (nums r).length = [] then .nils else .vsl ((ptN (nums r) (mpG l) (nums r).length).map ita), .int .i64 0]) ?_ (by split <;> simp_all [nz])
  (refine pc_sheet_Explode (Nat.le_of_ble_eq_true rfl) fun R hG hrd => GO_AR mixed 1000 ?_; subst hG)
  simp -implicitDefEqProofs [rc_sheet_Explode, rr_sheet_Explode, rega]
  (first | refine CallK.of (taken_pc hG r lt n h) (by simp) ?_ | refine CallD.of (taken_pc hG r lt n h) (by simp) ?_)
  simp -implicitDefEqProofs [takA, e, one_byA]
  unfold byA
  simp -implicitDefEqProofs []
  refine CallK.sem (CallSem.byref hp (fun k => k - 1000) (by simp [exO]) (by simp [exO]) (by simp [exO, St.get, lk, ren_dpA, AObj.ren, AV.ren, ren_byA, map_dpA, byA]; try simp [dpA]) (exO_in _ _ _) (by simp [exO, keptA, AV.keys, lk]) rfl (by simp [AV.ren]) rfl rfl) ?_
  simp -implicitDefEqProofs [setsB, exO, ren_dpA, AObj.ren, AV.ren, ren_byA, map_dpA, bkA]
  refine AR_for (ptP r l) (fun _ => True) (nums r).length ?_ trivial ?_ ?_
  · have e0 : ptN (nums r) (mpG l) 0 = [] := rfl
    simp only [ptP, e0, if_true]
    ((try simp only [byA]); refine Weak.sub (by simp [lk, keptA, AV.keys, byA]) ?_; simp only [byA, List.cons_append, List.nil_append, List.mem_cons, List.not_mem_nil, or_false, forall_eq_or_imp, forall_eq, kept_dpA, and_true]; (try simp [lk, keptO, keptA, AV.keys, byA]))
  · intro i hi _
    refine GO_AR mixed 1000 ?_
    have w1 : IntKind.i64.wrap ((i : Int) + 1) = ((i + 1 : Nat) : Int) := wrapI (by omega) (by omega)
    have gd := get_dp (nums r)[i] l
    have hs := ptN_succ (g := mpG l) hi
    have bl := ptN_len (nums r) (mpG l) i
    have bb : ((ptN (nums r) (mpG l) i).length + 1) * 16 ≤ 70368744177664 := by omega
    by_cases c : 0 < mpG l (nums r)[i]
    · have q : dpLk (nums r)[i] l = some (mpG l (nums r)[i]) := by
        unfold mpG dpG at c ⊢
        cases q : dpLk (nums r)[i] l <;> simp_all
      rw [q] at gd
      rw [if_pos c] at hs
      by_cases e : ptN (nums r) (mpG l) i = []
      · rw [e] at hs
        simp -implicitDefEqProofs [ptP, e, hi, ia, gd, c, w1, hs]
        ((try simp only [ita]); refine Weak.sub (by simp [lk, keptA, AV.keys, ita]) ?_; simp only [ita, List.cons_append, List.nil_append, List.mem_cons, List.not_mem_nil, or_false, forall_eq_or_imp, forall_eq, kept_dpA, ita_kept, and_true]; (try simp [lk, keptO, keptA, AV.keys, ita]))
      · simp -implicitDefEqProofs [ptP, e, hi, ia, gd, c, w1, hs, bb]
        ((try simp only [ita]); refine Weak.sub (by simp [lk, keptA, AV.keys, ita]) ?_; simp only [ita, List.cons_append, List.nil_append, List.mem_cons, List.not_mem_nil, or_false, forall_eq_or_imp, forall_eq, kept_dpA, ita_kept, and_true]; (try simp [lk, keptO, keptA, AV.keys, ita]))
    · rw [if_neg c] at hs
      have q : (dpLk (nums r)[i] l).getD 0 = mpG l (nums r)[i] := rfl
      generalize dpLk (nums r)[i] l = o at gd q
      by_cases e : ptN (nums r) (mpG l) i = [] <;> cases o
      · rw [e] at hs
        simp -implicitDefEqProofs [ptP, e, hi, ia, gd, w1, hs]
        ((try simp only [ita]); refine Weak.sub (by simp [lk, keptA, AV.keys, ita]) ?_; simp only [ita, List.cons_append, List.nil_append, List.mem_cons, List.not_mem_nil, or_false, forall_eq_or_imp, forall_eq, kept_dpA, ita_kept, and_true]; (try simp [lk, keptO, keptA, AV.keys, ita]))
      · rw [e] at hs
        obtain rfl : _ = mpG l (nums r)[i] := q
        simp -implicitDefEqProofs [ptP, e, hi, ia, gd, c, w1, hs]
        ((try simp only [ita]); refine Weak.sub (by simp [lk, keptA, AV.keys, ita]) ?_; simp only [ita, List.cons_append, List.nil_append, List.mem_cons, List.not_mem_nil, or_false, forall_eq_or_imp, forall_eq, kept_dpA, ita_kept, and_true]; (try simp [lk, keptO, keptA, AV.keys, ita]))
      · simp -implicitDefEqProofs [ptP, e, hi, ia, gd, w1, hs]
        ((try simp only [ita]); refine Weak.sub (by simp [lk, keptA, AV.keys, ita]) ?_; simp only [ita, List.cons_append, List.nil_append, List.mem_cons, List.not_mem_nil, or_false, forall_eq_or_imp, forall_eq, kept_dpA, ita_kept, and_true]; (try simp [lk, keptO, keptA, AV.keys, ita]))
      · obtain rfl : _ = mpG l (nums r)[i] := q
        simp -implicitDefEqProofs [ptP, e, hi, ia, gd, c, w1, hs]
        ((try simp only [ita]); refine Weak.sub (by simp [lk, keptA, AV.keys, ita]) ?_; simp only [ita, List.cons_append, List.nil_append, List.mem_cons, List.not_mem_nil, or_false, forall_eq_or_imp, forall_eq, kept_dpA, ita_kept, and_true]; (try simp [lk, keptO, keptA, AV.keys, ita]))
  · intro _
    refine GO_AR mixed 1000 ?_
    by_cases e : ptN (nums r) (mpG l) (nums r).length = []
    · simp -implicitDefEqProofs [ptP, e]
      refine GO_ret mixed 1000 ?_
      simp -implicitDefEqProofs [e]
    · have pu : ((ptN (nums r) (mpG l) (nums r).length).map ita).all (fun r => r.all AV.pure) = true := by simp [ita, AV.pure]
      simp -implicitDefEqProofs [ptP, e]
      refine GO_ret mixed 1000 ?_
      simp -implicitDefEqProofs [e, pu]
end
end Go.Proofs.YtdpmioiamcgfkaaDoor

/-! Trees: what the program's Tree computes. -/
namespace Go.Proofs.YtdpmioiamcgfkaaDoor
open Go.RowKit

theorem ren_bra (ρ : Nat → Nat) (l : List Brn) : (AObj.row 4 (l.map bra)).ren ρ = .row 4 (l.map bra) := by
  simp only [AObj.ren, List.map_map]
  congr 2; funext p; simp [bra, AV.ren]
theorem map_bra (ρ : Nat → Nat) (l : List Brn) : (l.map bra).map (fun r => r.map (AV.ren ρ)) = l.map bra := by
  simp only [List.map_map]
  congr 1; funext p; simp [bra, AV.ren]
theorem map_bra1 (ρ : Nat → Nat) (a : Brn) : (bra a).map (AV.ren ρ) = bra a := by simp [bra, AV.ren]
theorem comp_bra (ρ : Nat → Nat) : ((fun r : List AV => r.map (AV.ren ρ)) ∘ bra) = bra := by funext a; exact map_bra1 ρ a
theorem frz_bra (ok : Nat → Bool) (st : St) (l : List Brn) : frzO ok st (.row 4 (l.map bra)) = .row 4 (l.map bra) := by
  simp only [frzO, List.map_map]
  congr 2; funext p; simp [bra, frzA, frz, AV.keys]
theorem frz_b4 (st : St) {ok : Nat → Bool} {k n : Nat} (h : ok k = false) : frzO ok st (.box [.osl k n]) = .box [.osl k n] := by simp [frzO, frzA, frz, h]

/-- What Tree's own function is handed. -/
def grO (K : Nat) (r : List Iss) (lt : List Int) (l : List Brn) : List (Nat × AObj) :=
  [(1009, .box [byA r lt]), (1011, .box [.osl K l.length]), (1012, .box [.func (.func 80) [] [.ptr 1011 0, .ptr 1009 0, .ptr 1012 0]]), (K, .row 4 (l.map bra))]
/-- The same, where nothing is there yet. -/
def grZ (r : List Iss) (lt : List Int) : List (Nat × AObj) :=
  [(1009, .box [byA r lt]), (1011, .box [.nils]), (1012, .box [.func (.func 80) [] [.ptr 1011 0, .ptr 1009 0, .ptr 1012 0]])]
def grS (K : Nat) (r : List Iss) (lt : List Int) (dep : Int) (x : Iss) (l : List Brn) (i : Nat) : St := ⟨[(31, .int .i64 i), (30, .int .i64 x.its.length), (29, .vsl (x.its.map ita)), (0, .int .i64 dep), (4, .ptr 1012 0)], grO K r lt l⟩
theorem grO_in (r : List Iss) (lt : List Int) (l : List Brn) : ∀ p ∈ grO 1027 r lt l, keptO (grO 1027 r lt l) p.2 = true := by
  simp only [grO, List.mem_cons, List.not_mem_nil, or_false, forall_eq_or_imp, forall_eq, bra_kept, and_true]
  simp [lk, keptO, keptA, AV.keys, keys_byA]
theorem grZ_in (r : List Iss) (lt : List Int) : ∀ p ∈ grZ r lt, keptO (grZ r lt) p.2 = true := by
  simp only [grZ, List.mem_cons, List.not_mem_nil, or_false, forall_eq_or_imp, forall_eq]
  simp [lk, keptO, keptA, AV.keys, keys_byA]

section
variable {G : Nat → Option (List AV)}

theorem grow_pb (r : List Iss) (lt : List Int) (ho : openV r = 0) (hlt : ltB r lt = true) : ∀ (k : Nat) (n dep c : Int) (l : List Brn), n ∈ nums r → dpN r n ≤ k → 0 ≤ dep → dep + k ≤ 1000 → l.length ≤ 501 →
    PB Tryd.prog G 80 (grO 1027 r lt l) [.int .i64 dep, .agg [.int .i64 n, .int .i64 c], .ptr 1011 0, .ptr 1009 0, .ptr 1012 0] (.tup []) (grO 1027 r lt (grV (tkV r lt) k dep n c l))
  | 0, n, _, _, _, hn, hd, _, _, _ => (dp_pos ho hn hd).elim
  | k + 1, n, dep, c, l, hn, hd, hd0, hd1, h5 => by
    have hL := open_listed ho
    have wd : IntKind.i64.wrap (dep + 1) = dep + 1 := wrapI (by omega) (by omega)
    have hrec := fun y (hy : y ∈ (tkV r lt n).its) => fun l h5 => grow_pb r lt ho hlt k y.1 (dep + 1) y.2 l (dp_its ho hlt hn hd hy).1 (dp_its ho hlt hn hd hy).2 (by omega) (by omega) h5
    have gb := get_mp isA n (byN r lt (nums r).length)
    rw [byN_get hn] at gb
    have h8 := tk_8 ho hlt n hn
    have hxd := (tk_mem hL hlt hn).2
    rw [grV]
    by_cases c5 : 500 < l.length
    · have c5' : (500 : Int) < l.length := by omega
      rw [if_pos c5]
      (refine pb_sheet_Tree_1 (Nat.le_of_ble_eq_true rfl) fun R hG hrd => GO_AR mixed 1000 ?_; subst hG)
      simp -implicitDefEqProofs [rc_sheet_Tree_1, rr_sheet_Tree_1, grO, c5', FinB, frzSt, newK, frz_bra, frz_b1, frz_b4, frz_b3]
    have c5' : ¬ (500 : Int) < l.length := by omega
    rw [if_neg c5]
    generalize tkV r lt n = x at *
    subst hxd
    obtain ⟨l1, hl1⟩ : ∃ l1, l1 = l ++ [⟨dep, x.d, x.l, c⟩] := ⟨_, rfl⟩
    have hl1m : l1.map bra = l.map bra ++ [[.int .i64 dep, .int .i64 x.d, .int .i64 x.l, .int .i64 c]] := by rw [hl1, List.map_append]; rfl
    have hl1l : l1.length = l.length + 1 := by rw [hl1]; simp
    have b5 : (l.length + 1) * 32 ≤ 70368744177664 := by omega
    rw [← hl1]
    have fl5 : ∀ (its : List (Int × Int)) (l : List Brn), l.length ≤ 501 → (its.foldl (fun l y => grV (tkV r lt) k (dep + 1) y.1 y.2 l) l).length ≤ 501 := by
      intro its
      induction its with
      | nil => intro l h; exact h
      | cons y its ih => intro l h; exact ih _ (grV_501 k _ _ _ _ h)
    (refine pb_sheet_Tree_1 (Nat.le_of_ble_eq_true rfl) fun R hG hrd => GO_AR mixed 1000 ?_; subst hG)
    have key : ∀ (st : St), Weak st (grS 1027 r lt dep x l1 0) → AR Tryd.prog R (lastLp rc_sheet_Tree_1) st (RetP Tryd.prog R [KF.bk 0] (FinB [] (.tup []) (grO 1027 r lt (x.its.foldl (fun l y => grV (tkV r lt) k (dep + 1) y.1 y.2 l) l1)))) := by
      intro st hw
      refine AR_for (fun i => grS 1027 r lt dep x ((x.its.take i).foldl (fun l y => grV (tkV r lt) k (dep + 1) y.1 y.2 l) l1) i) (fun _ => True) x.its.length (by simpa using hw) trivial ?_ ?_
      · intro i hi _
        refine GO_AR mixed 1000 ?_
        have w1 : IntKind.i64.wrap ((i : Int) + 1) = ((i + 1 : Nat) : Int) := wrapI (by omega) (by omega)
        have ft := fold_take (fun l (y : Int × Int) => grV (tkV r lt) k (dep + 1) y.1 y.2 l) l1 x.its i hi
        have hr := hrec x.its[i] (List.getElem_mem hi) ((x.its.take i).foldl (fun l y => grV (tkV r lt) k (dep + 1) y.1 y.2 l) l1) (fl5 _ _ (by omega))
        generalize (x.its.take i).foldl (fun l y => grV (tkV r lt) k (dep + 1) y.1 y.2 l) l1 = l2 at *
        simp -implicitDefEqProofs [lastLp, rc_sheet_Tree_1, grS, grO, hi, ita, wd]
        refine CallK.sem (CallSem.byref hr id (by simp [grO]) (by simp [grO]) (by simp [grO, St.get, lk, AObj.ren, AV.ren, ren_byA, map_bra, map_bra1]) (grO_in _ _ _) (by simp [grO, keptA, AV.keys, lk]) rfl (by simp [AV.ren]) rfl rfl) ?_
        simp -implicitDefEqProofs [setsB, grO, AObj.ren, AV.ren, ren_byA, map_bra, map_bra1, w1]
        ((try simp only [grS, grO, byA, ft, map_bra1]); refine Weak.sub (by simp [lk, keptA, AV.keys, grS, grO, byA, ft, map_bra1]) ?_; simp only [grS, grO, byA, ft, map_bra1, List.cons_append, List.nil_append, List.mem_cons, List.not_mem_nil, or_false, forall_eq_or_imp, forall_eq, bra_kept, and_true]; (try simp [lk, keptO, keptA, AV.keys, grS, grO, byA, ft, map_bra1]))
      · intro _
        refine GO_AR mixed 1000 ?_
        simp -implicitDefEqProofs [lastLp, rc_sheet_Tree_1, grS, grO]
        refine GO_ret mixed 1000 ?_
        simp -implicitDefEqProofs [FinB, frzSt, newK, frz_bra, frz_b1, frz_b4, frz_b3, grO]
    simp -implicitDefEqProofs [rc_sheet_Tree_1, rr_sheet_Tree_1, grO, byA, gb, isA, isa, c5', b5]
    exact key _ (by simp only [← hl1m]; ((try simp only [grS, grO, byA, hl1l]); refine Weak.sub (by simp [lk, keptA, AV.keys, grS, grO, byA, hl1l]) ?_; simp only [grS, grO, byA, hl1l, List.cons_append, List.nil_append, List.mem_cons, List.not_mem_nil, or_false, forall_eq_or_imp, forall_eq, bra_kept, and_true]; (try simp [lk, keptO, keptA, AV.keys, grS, grO, byA, hl1l])))

/-- What stays at the end of Tree's own function, where the list has begun. -/
def okT : Nat → Bool := fun k => decide (k < 1000) && decide (k ≠ 27)
theorem grow0_pb (r : List Iss) (lt : List Int) (ho : openV r = 0) (hlt : ltB r lt = true) (k : Nat) (n dep c : Int) (hn : n ∈ nums r) (hd : dpN r n ≤ k + 1) (hd0 : 0 ≤ dep) (hd1 : dep + (k + 1 : Nat) ≤ 1000) :
    PB Tryd.prog G 80 (grZ r lt) [.int .i64 dep, .agg [.int .i64 n, .int .i64 c], .ptr 1011 0, .ptr 1009 0, .ptr 1012 0] (.tup []) (grO 27 r lt (grV (tkV r lt) (k + 1) dep n c [])) := by
  have hL := open_listed ho
  have wd : IntKind.i64.wrap (dep + 1) = dep + 1 := wrapI (by omega) (by omega)
  have hrec := fun y (hy : y ∈ (tkV r lt n).its) => fun l h5 => grow_pb (G := G) r lt ho hlt k y.1 (dep + 1) y.2 l (dp_its ho hlt hn hd hy).1 (dp_its ho hlt hn hd hy).2 (by omega) (by omega) h5
  have gb := get_mp isA n (byN r lt (nums r).length)
  rw [byN_get hn] at gb
  have h8 := tk_8 ho hlt n hn
  have hxd := (tk_mem hL hlt hn).2
  rw [grV, if_neg (by simp), List.nil_append]
  generalize tkV r lt n = x at *
  subst hxd
  obtain ⟨l1, hl1⟩ : ∃ l1 : List Brn, l1 = [⟨dep, x.d, x.l, c⟩] := ⟨_, rfl⟩
  have hl1m : l1.map bra = [[.int .i64 dep, .int .i64 x.d, .int .i64 x.l, .int .i64 c]] := by rw [hl1]; rfl
  have hl1l : l1.length = 1 := by rw [hl1]; simp
  rw [← hl1]
  have fl5 : ∀ (its : List (Int × Int)) (l : List Brn), l.length ≤ 501 → (its.foldl (fun l y => grV (tkV r lt) k (dep + 1) y.1 y.2 l) l).length ≤ 501 := by
    intro its
    induction its with
    | nil => intro l h; exact h
    | cons y its ih => intro l h; exact ih _ (grV_501 k _ _ _ _ h)
  refine PBo_of okT (by intro k hk; simp [okT] at hk; omega) Tryd.func80 rfl (by kernel_rfl) (rc := rc_sheet_Tree_1) (by kernel_rfl) (rs := rr_sheet_Tree_1) (by kernel_rfl) (Nat.le_of_ble_eq_true rfl) fun R _ hG hrd => GO_AR mixed 1000 ?_
  subst hG
  have key : ∀ (st : St), Weak st (grS 27 r lt dep x l1 0) → AR Tryd.prog R (lastLp rc_sheet_Tree_1) st (RetP Tryd.prog R [KF.bk 0] (FinO okT [] (.tup []) (grO 27 r lt (x.its.foldl (fun l y => grV (tkV r lt) k (dep + 1) y.1 y.2 l) l1)))) := by
    intro st hw
    refine AR_for (fun i => grS 27 r lt dep x ((x.its.take i).foldl (fun l y => grV (tkV r lt) k (dep + 1) y.1 y.2 l) l1) i) (fun _ => True) x.its.length (by simpa using hw) trivial ?_ ?_
    · intro i hi _
      refine GO_AR mixed 1000 ?_
      have w1 : IntKind.i64.wrap ((i : Int) + 1) = ((i + 1 : Nat) : Int) := wrapI (by omega) (by omega)
      have ft := fold_take (fun l (y : Int × Int) => grV (tkV r lt) k (dep + 1) y.1 y.2 l) l1 x.its i hi
      have hr := hrec x.its[i] (List.getElem_mem hi) ((x.its.take i).foldl (fun l y => grV (tkV r lt) k (dep + 1) y.1 y.2 l) l1) (fl5 _ _ (by omega))
      generalize (x.its.take i).foldl (fun l y => grV (tkV r lt) k (dep + 1) y.1 y.2 l) l1 = l2 at *
      simp -implicitDefEqProofs [lastLp, rc_sheet_Tree_1, grS, grO, hi, ita, wd]
      refine CallK.sem (CallSem.byref hr (fun k => if k = 1027 then 27 else k) (by simp [grO]) (by simp [grO]) (by simp [grO, St.get, lk, AObj.ren, AV.ren, ren_byA, map_bra, map_bra1]) (grO_in _ _ _) (by simp [grO, keptA, AV.keys, lk]) rfl (by simp [AV.ren]) rfl rfl) ?_
      simp -implicitDefEqProofs [setsB, grO, AObj.ren, AV.ren, ren_byA, map_bra, map_bra1, w1]
      ((try simp only [grS, grO, byA, ft, map_bra1]); refine Weak.sub (by simp [lk, keptA, AV.keys, grS, grO, byA, ft, map_bra1]) ?_; simp only [grS, grO, byA, ft, map_bra1, List.cons_append, List.nil_append, List.mem_cons, List.not_mem_nil, or_false, forall_eq_or_imp, forall_eq, bra_kept, and_true]; (try simp [lk, keptO, keptA, AV.keys, grS, grO, byA, ft, map_bra1]))
    · intro _
      refine GO_AR mixed 1000 ?_
      simp -implicitDefEqProofs [lastLp, rc_sheet_Tree_1, grS, grO]
      refine GO_ret mixed 1000 ?_
      simp -implicitDefEqProofs [FinO, frzSt, okT, frz_bra, frz_b1, frz_b4, frz_b3, grO]
  simp -implicitDefEqProofs [rc_sheet_Tree_1, rr_sheet_Tree_1, grZ, byA, gb, isA, isa]
  exact key _ (by simp only [← hl1m]; ((try simp only [grS, grO, byA, hl1l]); refine Weak.sub (by simp [lk, keptA, AV.keys, grS, grO, byA, hl1l]) ?_; simp only [grS, grO, byA, hl1l, List.cons_append, List.nil_append, List.mem_cons, List.not_mem_nil, or_false, forall_eq_or_imp, forall_eq, bra_kept, and_true]; (try simp [lk, keptO, keptA, AV.keys, grS, grO, byA, hl1l])))

theorem treeP_pc (hG : GC G) (r : List Iss) (lt : List Int) (n : Int) (h : Wf r) : PC Tryd.prog G 35 [rega r, .vsl (lt.map ia), .int .i64 n] (.tup [.vsl ((trE r lt n).1.map bra), .int .i64 (trE r lt n).2]) := by
  by_cases e : askV r lt n = 0
  case neg =>
    refine PC.nzR (v := .tup [.nils, .int .i64 (askV r lt n)]) ?_ (by simp [nz, trE, e])
    (refine pc_sheet_Tree (Nat.le_of_ble_eq_true rfl) fun R hG hrd => GO_AR mixed 1000 ?_; subst hG)
    simp -implicitDefEqProofs [rc_sheet_Tree, rr_sheet_Tree, rega]
    (first | refine CallK.of (taken_pc hG r lt n h) (by simp) ?_ | refine CallD.of (taken_pc hG r lt n h) (by simp) ?_)
    simp -implicitDefEqProofs [takA, e]
  obtain ⟨ho, hlt, hn⟩ := ask_0 e
  have hp := grow0_pb (G := G) r lt ho hlt 5 n 0 1 hn (dpN_bd ho hn).2 (Int.le_refl _) (by omega)
  obtain ⟨g1, g2⟩ := grV_eq (T := tkV r lt) 6 0 n 1 []
  have g3 := trV_brN (T := tkV r lt) 6 0 n 1
  rw [List.nil_append, g3] at g1 g2
  by_cases c : 500 < brN (tkV r lt) 6 n
  · have c' := g2 c
    refine PC.nzR (v := .tup [.nils, .int .i64 4]) ?_ (by simp [nz, trE, e, c])
    generalize grV (tkV r lt) 6 0 n 1 [] = l at *
    have c2 : (500 : Int) < l.length := by omega
    (refine pc_sheet_Tree (Nat.le_of_ble_eq_true rfl) fun R hG hrd => GO_AR mixed 1000 ?_; subst hG)
    simp -implicitDefEqProofs [rc_sheet_Tree, rr_sheet_Tree, rega]
    (first | refine CallK.of (taken_pc hG r lt n h) (by simp) ?_ | refine CallD.of (taken_pc hG r lt n h) (by simp) ?_)
    simp -implicitDefEqProofs [takA, e, one_byA]
    unfold byA
    simp -implicitDefEqProofs []
    refine CallK.sem (CallSem.refn hp (fun k => if 1000 ≤ k then k - 1000 else k) (by simp [grZ]) (by simp [grO]) (by simp [grZ, St.get, lk, AObj.ren, AV.ren, ren_byA, byA]) (grZ_in _ _) (by simp [grZ, keptA, AV.keys, lk]) (by simp [grZ, grO, isK, lk]) (by simp [grZ, grO, isK, lk, St.get]) (by simp [AV.ren]) rfl rfl) ?_
    simp -implicitDefEqProofs [setsB, grO, AObj.ren, AV.ren, ren_byA, map_bra, map_bra1, c2]
  · have c' := g1 (by omega)
    have ev : trE r lt n = (grV (tkV r lt) 6 0 n 1 [], 0) := by rw [trE, if_pos e, if_neg c, c']
    rw [ev]
    have lb : (grV (tkV r lt) 6 0 n 1 []).length ≤ 500 := by rw [c', g3]; omega
    generalize grV (tkV r lt) 6 0 n 1 [] = l at *
    have c2 : ¬ (500 : Int) < l.length := by omega
    have pu := (bra_all l).2.2
    (refine pc_sheet_Tree (Nat.le_of_ble_eq_true rfl) fun R hG hrd => GO_AR mixed 1000 ?_; subst hG)
    simp -implicitDefEqProofs [rc_sheet_Tree, rr_sheet_Tree, rega]
    (first | refine CallK.of (taken_pc hG r lt n h) (by simp) ?_ | refine CallD.of (taken_pc hG r lt n h) (by simp) ?_)
    simp -implicitDefEqProofs [takA, e, one_byA]
    unfold byA
    simp -implicitDefEqProofs []
    refine CallK.sem (CallSem.refn hp (fun k => if 1000 ≤ k then k - 1000 else k) (by simp [grZ]) (by simp [grO]) (by simp [grZ, St.get, lk, AObj.ren, AV.ren, ren_byA, byA]) (grZ_in _ _) (by simp [grZ, keptA, AV.keys, lk]) (by simp [grZ, grO, isK, lk]) (by simp [grZ, grO, isK, lk, St.get]) (by simp [AV.ren]) rfl rfl) ?_
    simp -implicitDefEqProofs [setsB, grO, AObj.ren, AV.ren, ren_byA, map_bra, map_bra1, comp_bra, c2, pu]
end
end Go.Proofs.YtdpmioiamcgfkaaDoor

/-! The abstract machine's code of functions of the program, as a program of ours printed it; that it is theirs is proved beside each. -/
namespace Go.Proofs.YtdpmioiamcgfkaaDoor
open Go.RowKit

def rc_law02_SheetTells : RCode :=
  .seq (.reg 0 false [ { d := some 3, op := .box (.t 0) }, { d := some 5, op := .box (.t 2) }, { d := some 6, op := .mov (.c (.bool false)) }]) (.seq
 (.seq (.reg 1 false [ { d := some 21, op := .load true 1 (.t 3) }, { d := some 22, op := .call 18 [.t 21] }]) (.cond (.t 22)
 (.seq (.reg 2 false [ { d := some 6, op := .mov (.c (.bool true)) }]) (.ret)) (.skip)))
 (.seq (.reg 3 false [ { d := some 23, op := .load true 1 (.t 3) }, { d := some 24, op := .call 19 [.t 23] }, { d := some 7, op := .alloc [.nils] }, { d := none, op := .store 1 (.t 7) (.t 24) }])
 (.seq (.reg 4 false [ { d := some 26, op := .load true 1 (.t 7) }, { d := some 27, op := .call 20 [.t 26] }, { d := some 25, op := .mov (.t 27) }, { d := some 28, op := .ext 0 (.t 25) }, { d := some 29, op := .ext 1 (.t 25) }, { d := some 8, op := .mov (.t 28) }, { d := some 9, op := .mov (.t 29) }])
 (.seq (.reg 5 false [ { d := some 31, op := .load true 1 (.t 3) }, { d := some 32, op := .call 21 [.t 31] }, { d := some 30, op := .mov (.t 32) }, { d := some 33, op := .ext 0 (.t 30) }, { d := some 34, op := .ext 1 (.t 30) }, { d := some 10, op := .mov (.t 33) }, { d := some 11, op := .mov (.t 34) }])
 (.seq (.reg 6 false [ { d := some 36, op := .load true 1 (.t 7) }, { d := some 37, op := .mov (.t 1) }, { d := some 38, op := .call 22 [.t 36, .t 37] }, { d := some 35, op := .mov (.t 38) }, { d := some 39, op := .ext 0 (.t 35) }, { d := some 40, op := .ext 1 (.t 35) }, { d := some 12, op := .mov (.t 39) }, { d := some 13, op := .mov (.t 40) }])
 (.seq (.reg 7 false [ { d := some 42, op := .load true 1 (.t 3) }, { d := some 43, op := .mov (.t 1) }, { d := some 44, op := .call 23 [.t 42, .t 43] }, { d := some 41, op := .mov (.t 44) }, { d := some 45, op := .ext 0 (.t 41) }, { d := some 46, op := .ext 1 (.t 41) }, { d := some 14, op := .mov (.t 45) }, { d := some 15, op := .mov (.t 46) }]) (.seq
 (.seq (.reg 8 true [ { d := some 47, op := .load true 1 (.t 7), aft := [] }, { d := some 48, op := .call 24 [.t 47], aft := [0] }, { d := some 49, op := .load true 1 (.t 3), aft := [] }, { d := some 50, op := .call 25 [.t 49], aft := [2, 1] }, { d := some 51, op := .bin .neq (.t 48) (.t 50), aft := [1, 3] }, { d := some 52, op := .mov (.t 51), aft := [4, 3] }, { d := some 53, op := .mov (.t 8), guard := some (52, false), aft := [5] }, { d := some 54, op := .mov (.t 10), guard := some (52, false), aft := [5] }, { d := some 55, op := .call 26 [.t 53, .t 54], guard := some (52, false), aft := [6, 7, 5, 5] }, { d := some 56, op := .un .not (.t 55), guard := some (52, false), aft := [8, 5] }, { d := some 57, op := .pick (.t 52) (.c (.bool true)) (.t 56), aft := [5, 9] }, { d := some 58, op := .mov (.t 57), aft := [10, 8] }, { d := some 59, op := .mov (.t 9), guard := some (58, false), aft := [11] }, { d := some 60, op := .mov (.t 11), guard := some (58, false), aft := [11] }, { d := some 61, op := .bin .neq (.t 59) (.t 60), guard := some (58, false), aft := [12, 13, 11] }, { d := some 62, op := .pick (.t 58) (.c (.bool true)) (.t 61), aft := [11, 14] }, { d := some 63, op := .mov (.t 62), aft := [15, 11] }, { d := some 64, op := .mov (.t 12), guard := some (63, false), aft := [16] }, { d := some 65, op := .mov (.t 14), guard := some (63, false), aft := [16] }, { d := some 66, op := .bin .neq (.t 64) (.t 65), guard := some (63, false), aft := [17, 18, 16] }, { d := some 67, op := .pick (.t 63) (.c (.bool true)) (.t 66), aft := [16, 19] }, { d := some 68, op := .mov (.t 67), aft := [20, 16] }, { d := some 69, op := .mov (.t 13), guard := some (68, false), aft := [21] }, { d := some 70, op := .mov (.t 15), guard := some (68, false), aft := [21] }, { d := some 71, op := .bin .neq (.t 69) (.t 70), guard := some (68, false), aft := [22, 23, 21] }, { d := some 72, op := .pick (.t 68) (.c (.bool true)) (.t 71), aft := [21, 24] }]) (.cond (.t 72)
 (.seq (.reg 9 false [ { d := some 6, op := .mov (.c (.bool false)) }]) (.ret)) (.skip)))
 (.seq (.reg 10 false [ { d := some 74, op := .load true 1 (.t 7) }, { d := some 75, op := .load true 2 (.t 5) }, { d := some 76, op := .call 27 [.t 74, .t 75] }, { d := some 73, op := .mov (.t 76) }, { d := some 77, op := .ext 0 (.t 73) }, { d := some 78, op := .ext 1 (.t 73) }, { d := some 16, op := .alloc [.int .i64 0, .int .i64 0, .int .u8 0, .nils, .nils] }, { d := none, op := .store 5 (.t 16) (.t 77) }, { d := some 9, op := .mov (.t 78) }])
 (.seq (.reg 11 false [ { d := some 80, op := .load true 1 (.t 3) }, { d := some 81, op := .load true 2 (.t 5) }, { d := some 82, op := .call 28 [.t 80, .t 81] }, { d := some 79, op := .mov (.t 82) }, { d := some 83, op := .ext 0 (.t 79) }, { d := some 84, op := .ext 1 (.t 79) }, { d := some 17, op := .alloc [.int .i64 0, .int .i64 0, .int .u8 0, .nils, .nils] }, { d := none, op := .store 5 (.t 17) (.t 83) }, { d := some 11, op := .mov (.t 84) }])
 (.seq (.reg 12 false [ { d := some 86, op := .load true 1 (.t 7) }, { d := some 87, op := .mov (.t 1) }, { d := some 88, op := .call 29 [.t 86, .t 87] }, { d := some 85, op := .mov (.t 88) }, { d := some 89, op := .ext 0 (.t 85) }, { d := some 90, op := .ext 1 (.t 85) }, { d := some 12, op := .mov (.t 89) }, { d := some 13, op := .mov (.t 90) }])
 (.seq (.reg 13 false [ { d := some 92, op := .load true 1 (.t 3) }, { d := some 93, op := .mov (.t 1) }, { d := some 94, op := .call 30 [.t 92, .t 93] }, { d := some 91, op := .mov (.t 94) }, { d := some 95, op := .ext 0 (.t 91) }, { d := some 96, op := .ext 1 (.t 91) }, { d := some 14, op := .mov (.t 95) }, { d := some 15, op := .mov (.t 96) }])
 (.seq (.reg 14 false [ { d := some 97, op := .load true 5 (.t 16) }, { d := some 98, op := .load true 5 (.t 17) }, { d := some 99, op := .call 31 [.t 97, .t 98] }, { d := some 100, op := .mov (.t 99) }, { d := some 101, op := .mov (.t 9), guard := some (100, true) }, { d := some 102, op := .mov (.t 11), guard := some (100, true) }, { d := some 103, op := .bin .eql (.t 101) (.t 102), guard := some (100, true) }, { d := some 104, op := .pick (.t 100) (.t 103) (.c (.bool false)) }, { d := some 105, op := .mov (.t 104) }, { d := some 106, op := .mov (.t 12), guard := some (105, true) }, { d := some 107, op := .mov (.t 14), guard := some (105, true) }, { d := some 108, op := .bin .eql (.t 106) (.t 107), guard := some (105, true) }, { d := some 109, op := .pick (.t 105) (.t 108) (.c (.bool false)) }, { d := some 110, op := .mov (.t 109) }, { d := some 111, op := .mov (.t 13), guard := some (110, true) }, { d := some 112, op := .mov (.t 15), guard := some (110, true) }, { d := some 113, op := .bin .eql (.t 111) (.t 112), guard := some (110, true) }, { d := some 114, op := .pick (.t 110) (.t 113) (.c (.bool false)) }, { d := some 18, op := .mov (.t 114) }]) (.seq
 (.seq (.reg 15 false [ { d := some 115, op := .faddr 3 (.t 16) }, { d := some 116, op := .load false 1 (.t 115) }, { d := some 117, op := .len (.t 116) }, { d := some 118, op := .mov (.c (.int .i64 0)) }]) (.block 0 (.loop
 (.seq (.reg 16 false [ { d := some 119, op := .bin .lss (.t 118) (.t 117) }]) (.seq (.cond (.t 119) (.skip) (.exit 0)) (.seq (.block 1
 (.seq (.reg 17 false [ { d := some 120, op := .mov (.t 118) }, { d := some 19, op := .mov (.t 120) }]) (.reg 18 false [ { d := some 121, op := .faddr 3 (.t 16) }, { d := some 122, op := .load false 1 (.t 121) }, { d := some 123, op := .mov (.t 19) }, { d := some 124, op := .iaddr 2 (.t 122) (.t 123) }, { d := some 125, op := .faddr 1 (.t 124) }, { d := none, op := .store 1 (.t 125) (.c (.int .i64 0)) }]))) (.reg 19 false [ { d := some 126, op := .bin .add (.t 118) (.c (.int .i64 1)) }, { d := some 118, op := .mov (.t 126) }]))))))) (.seq
 (.seq (.reg 20 false [ { d := some 127, op := .faddr 4 (.t 16) }, { d := some 128, op := .load false 1 (.t 127) }, { d := some 129, op := .len (.t 128) }, { d := some 130, op := .mov (.c (.int .i64 0)) }]) (.block 2 (.loop
 (.seq (.reg 21 false [ { d := some 131, op := .bin .lss (.t 130) (.t 129) }]) (.seq (.cond (.t 131) (.skip) (.exit 2)) (.seq (.block 3
 (.seq (.reg 22 false [ { d := some 132, op := .mov (.t 130) }, { d := some 20, op := .mov (.t 132) }]) (.reg 23 false [ { d := some 133, op := .faddr 4 (.t 16) }, { d := some 134, op := .load false 1 (.t 133) }, { d := some 135, op := .mov (.t 20) }, { d := some 136, op := .iaddr 3 (.t 134) (.t 135) }, { d := some 137, op := .faddr 1 (.t 136) }, { d := none, op := .store 1 (.t 137) (.c (.int .i64 (-7))) }]))) (.reg 24 false [ { d := some 138, op := .bin .add (.t 130) (.c (.int .i64 1)) }, { d := some 130, op := .mov (.t 138) }])))))))
 (.seq (.reg 25 false [ { d := some 139, op := .mov (.t 18) }, { d := some 140, op := .mov (.t 139) }, { d := some 141, op := .load true 1 (.t 7), guard := some (140, true) }, { d := some 142, op := .load true 1 (.t 3), guard := some (140, true) }, { d := some 143, op := .call 32 [.t 141, .t 142], guard := some (140, true) }, { d := some 144, op := .pick (.t 140) (.t 143) (.c (.bool false)) }, { d := some 6, op := .mov (.t 144) }]) (.ret))))))))))))))))
def rr_law02_SheetTells : List RRes := [.t 6]
theorem pc_law02_SheetTells {G : Nat → Option (List AV)} {args : List AV} {v : AV} (hn : args.length ≤ Tryd.f3.ntmps) (h : ∀ R : Run, R.G = G → R.Top → AR Tryd.prog R rc_law02_SheetTells (initSt args) (Fin rr_law02_SheetTells v)) : PC Tryd.prog G 3 args v :=
  PC_of Tryd.func3 rfl (by kernel_rfl) (rc := rc_law02_SheetTells) (by kernel_rfl) (rs := rr_law02_SheetTells) (by kernel_rfl) hn (fun R _ hG hr => h R hG hr)

end Go.Proofs.YtdpmioiamcgfkaaDoor

/-! The law SheetTells, by the abstract machine. -/
namespace Go.Proofs.YtdpmioiamcgfkaaDoor
open Go.RowKit

/-- The items, the first of which are struck. -/
def zR (l : List (Int × Int)) (i : Nat) : List (List AV) := (l.take i).map (fun p => [.int .i64 p.1, .int .i64 0]) ++ (l.drop i).map ita
theorem zR_len (l : List (Int × Int)) (i : Nat) : (zR l i).length = l.length := by simp [zR]; omega
theorem zR_get {l : List (Int × Int)} {i : Nat} (h : i < l.length) : (zR l i)[i]? = some [.int .i64 l[i].1, .int .i64 l[i].2] := by
  have e : ((l.take i).map (fun p => ([.int .i64 p.1, .int .i64 0] : List AV))).length = i := by simp; omega
  rw [zR, List.getElem?_append_right (by omega), e, Nat.sub_self, List.drop_eq_getElem_cons h]; rfl
theorem zR_at {l : List (Int × Int)} {i : Nat} (h : i < l.length) (h2 : i < (zR l i).length) : (zR l i)[i] = [.int .i64 l[i].1, .int .i64 l[i].2] := by
  have := zR_get h
  rw [List.getElem?_eq_getElem h2] at this
  exact Option.some.inj this
theorem zR_set {l : List (Int × Int)} {i : Nat} (h : i < l.length) : (zR l i).set i [.int .i64 l[i].1, .int .i64 0] = zR l (i + 1) := by
  have e : ((l.take i).map (fun p => ([.int .i64 p.1, .int .i64 0] : List AV))).length = i := by simp; omega
  rw [zR, List.set_append_right _ _ (by omega), e, Nat.sub_self, List.drop_eq_getElem_cons h, zR, List.take_succ_eq_append_getElem h, List.map_cons, List.set_cons_zero, List.map_append, List.append_assoc]; rfl
theorem zR_0 (l : List (Int × Int)) : zR l 0 = l.map ita := by simp [zR]
theorem zR_kept {l : List (Int × Int)} {i : Nat} (o : List (Nat × AObj)) : keptO o (.row 2 (zR l i)) = true := by
  simp only [keptO, List.all_eq_true, zR, List.mem_append, List.mem_map]
  rintro x (⟨y, -, rfl⟩ | ⟨y, -, rfl⟩) v hv
  · simp only [List.mem_cons, List.not_mem_nil, or_false] at hv
    rcases hv with rfl | rfl <;> simp [keptA, AV.keys]
  · simp only [ita, List.mem_cons, List.not_mem_nil, or_false] at hv
    rcases hv with rfl | rfl <;> simp [keptA, AV.keys]
/-- The sizes, the first of which are struck. -/
def wR (l : List Dm) (i : Nat) : List (List AV) := (l.take i).map (fun p => [.int .i64 p.n, .int .i64 (-7), .int .i64 p.u]) ++ (l.drop i).map dma
theorem wR_len (l : List Dm) (i : Nat) : (wR l i).length = l.length := by simp [wR]; omega
theorem wR_get {l : List Dm} {i : Nat} (h : i < l.length) : (wR l i)[i]? = some [.int .i64 l[i].n, .int .i64 l[i].l, .int .i64 l[i].u] := by
  have e : ((l.take i).map (fun p => ([.int .i64 p.n, .int .i64 (-7), .int .i64 p.u] : List AV))).length = i := by simp; omega
  rw [wR, List.getElem?_append_right (by omega), e, Nat.sub_self, List.drop_eq_getElem_cons h]; rfl
theorem wR_at {l : List Dm} {i : Nat} (h : i < l.length) (h2 : i < (wR l i).length) : (wR l i)[i] = [.int .i64 l[i].n, .int .i64 l[i].l, .int .i64 l[i].u] := by
  have := wR_get h
  rw [List.getElem?_eq_getElem h2] at this
  exact Option.some.inj this
theorem wR_set {l : List Dm} {i : Nat} (h : i < l.length) : (wR l i).set i [.int .i64 l[i].n, .int .i64 (-7), .int .i64 l[i].u] = wR l (i + 1) := by
  have e : ((l.take i).map (fun p => ([.int .i64 p.n, .int .i64 (-7), .int .i64 p.u] : List AV))).length = i := by simp; omega
  rw [wR, List.set_append_right _ _ (by omega), e, Nat.sub_self, List.drop_eq_getElem_cons h, wR, List.take_succ_eq_append_getElem h, List.map_cons, List.set_cons_zero, List.map_append, List.append_assoc]; rfl
theorem wR_0 (l : List Dm) : wR l 0 = l.map dma := by simp [wR]
theorem wR_kept {l : List Dm} {i : Nat} (o : List (Nat × AObj)) : keptO o (.row 3 (wR l i)) = true := by
  simp only [keptO, List.all_eq_true, wR, List.mem_append, List.mem_map]
  rintro x (⟨y, -, rfl⟩ | ⟨y, -, rfl⟩) v hv
  · simp only [List.mem_cons, List.not_mem_nil, or_false] at hv
    rcases hv with rfl | rfl | rfl <;> simp [keptA, AV.keys]
  · simp only [dma, List.mem_cons, List.not_mem_nil, or_false] at hv
    rcases hv with rfl | rfl | rfl <;> simp [keptA, AV.keys]
section
variable {G : Nat → Option (List AV)}

theorem atP_pc (hG : GC G) (r : List Iss) (d l : Int) (h : Wf r) (hn : openV r ≠ 0 ∨ findN d l r = none) : PC Tryd.prog G 27 [rega r, .agg [.int .i64 d, .int .i64 l]] (.tup [.agg (isa (atP r d l).1), .int .i64 (atP r d l).2]) := by
  by_cases e : openV r = 0
  · have hf : findN d l r = none := hn.resolve_left fun h => h e
    refine PC.nzR (v := .tup [.agg [.int .i64 0, .int .i64 0, .int .u8 0, .nils, .nils], .int .i64 6]) ?_ (by simp [nz, atP, e, hf, zI, isa])
    (refine pc_sheet_At (Nat.le_of_ble_eq_true rfl) fun R hG hrd => GO_AR mixed 1000 ?_; subst hG)
    have hL := open_listed e
    have hO := ord_of hL
    simp -implicitDefEqProofs [rc_sheet_At, rr_sheet_At, rega]
    (first | refine CallK.of (open_pc hG r h) (by simp) ?_ | refine CallD.of (open_pc hG r h) (by simp) ?_)
    simp -implicitDefEqProofs [openA, e]
    (first | refine CallK.of (find_pcS r (nums r) d l (ord_map hO) h.1.1 (find_own hL)) (by simp) ?_ | refine CallD.of (find_pcS r (nums r) d l (ord_map hO) h.1.1 (find_own hL)) (by simp) ?_)
    simp -implicitDefEqProofs [hf, fndA, noIs]
  · refine PC.nzR (v := .tup [.agg [.int .i64 0, .int .i64 0, .int .u8 0, .nils, .nils], .int .i64 (openV r)]) ?_ (by simp [nz, atP, e, zI, isa])
    (refine pc_sheet_At (Nat.le_of_ble_eq_true rfl) fun R hG hrd => GO_AR mixed 1000 ?_; subst hG)
    simp -implicitDefEqProofs [rc_sheet_At, rr_sheet_At, rega]
    (first | refine CallK.of (open_pc hG r h) (by simp) ?_ | refine CallD.of (open_pc hG r h) (by simp) ?_)
    simp -implicitDefEqProofs [openA, e]

theorem tells_pc (hG : GC G) (r : List Iss) (n d l : Int) (h : Wf r) : PC Tryd.prog G 3 [rega r, .int .i64 n, .agg [.int .i64 d, .int .i64 l]] (.bool true) := by
  (refine pc_law02_SheetTells (Nat.le_of_ble_eq_true rfl) fun R hG hrd => GO_AR mixed 1000 ?_; subst hG)
  simp -implicitDefEqProofs [rc_law02_SheetTells, rr_law02_SheetTells, rega]
  (first | refine CallK.of (great_pc r h.1.1) (by simp) ?_ | refine CallD.of (great_pc r h.1.1) (by simp) ?_)
  cases g : greatB r
  case true => simp -implicitDefEqProofs []
  simp -implicitDefEqProofs []
  (first | refine CallK.of (twin_pc r h.1) (by simp) ?_ | refine CallD.of (twin_pc r h.1) (by simp) ?_)
  simp -implicitDefEqProofs [rega]
  (first | refine CallK.of (drawP_pc hG r h) (by simp) ?_ | refine CallD.of (drawP_pc hG r h) (by simp) ?_)
  simp -implicitDefEqProofs []
  (first | refine CallK.of (drawR_pc r h) (by simp) ?_ | refine CallD.of (drawR_pc r h) (by simp) ?_)
  simp -implicitDefEqProofs []
  (first | refine CallK.of (lastP_pc hG r n h) (by simp) ?_ | refine CallD.of (lastP_pc hG r n h) (by simp) ?_)
  simp -implicitDefEqProofs []
  (first | refine CallK.of (lastR_pc r n h) (by simp) ?_ | refine CallD.of (lastR_pc r n h) (by simp) ?_)
  rw [draw_eq, last_eq]
  simp -implicitDefEqProofs []
  (first | refine CallK.of (checkP_pc hG r h) (by simp) ?_ | refine CallD.of (checkP_pc hG r h) (by simp) ?_)
  simp -implicitDefEqProofs []
  (first | refine CallK.of (checkR_pc r h) (by simp) ?_ | refine CallD.of (checkR_pc r h) (by simp) ?_)
  rw [← open_chk]
  simp -implicitDefEqProofs []
  (first | refine CallK.of (sameInts_pc _ _ (by split; exact nums_sml h.1.1; simp [Sml])) (by simp) ?_ | refine CallD.of (sameInts_pc _ _ (by split; exact nums_sml h.1.1; simp [Sml])) (by simp) ?_)
  simp -implicitDefEqProofs []
  refine ⟨rfl, ?_⟩
  have hx : Sml (atP r d l).1.its ∧ Sml (atP r d l).1.dms := by
    unfold atP
    split
    · split
      · rename_i x hf; exact h.1.2 x (findN_mem hf).1
      · simp [zI, Sml]
    · simp [zI, Sml]
  by_cases ok : openV r = 0 ∧ (findN d l r).isSome = true
  case neg =>
    have ok2 : openV r ≠ 0 ∨ findN d l r = none := by
      by_cases q : openV r = 0
      · exact .inr (by cases hf : findN d l r with
          | none => rfl
          | some x => exact absurd ⟨q, by rw [hf]; rfl⟩ ok)
      · exact .inl q
    have hp := atP_pc hG r d l h ok2
    have e1 : (atP r d l).1.its = [] := by
      unfold atP
      rcases ok2 with q | q
      · rw [if_neg q]; rfl
      · split <;> (try rw [q]) <;> rfl
    have e2 : (atP r d l).1.dms = [] := by
      unfold atP
      rcases ok2 with q | q
      · rw [if_neg q]; rfl
      · split <;> (try rw [q]) <;> rfl
    obtain ⟨⟨x, c⟩, ev⟩ : ∃ v, atP r d l = v := ⟨_, rfl⟩
    rw [ev] at hp hx e1 e2
    simp only at hp hx e1 e2
    have k5 : (x.its.map ita).all (fun r => r.all AV.pure) = true := by simp [ita, AV.pure]
    have k6 : (x.dms.map dma).all (fun r => r.all AV.pure) = true := by simp [dma, AV.pure]
    refine CallK.of hp (by simp) ?_
    simp -implicitDefEqProofs [isa, e1, e2]
    (first | refine CallK.of (atR_pc r d l h) (by simp) ?_ | refine CallD.of (atR_pc r d l h) (by simp) ?_)
    rw [at_eqV, ev]
    simp -implicitDefEqProofs [isa, e1, e2]
    (first | refine CallK.of (depthP_pc hG r n h) (by simp) ?_ | refine CallD.of (depthP_pc hG r n h) (by simp) ?_)
    simp -implicitDefEqProofs []
    (first | refine CallK.of (depthR_pc r n h) (by simp) ?_ | refine CallD.of (depthR_pc r n h) (by simp) ?_)
    rw [dep_eq]
    simp -implicitDefEqProofs []
    refine CallK.flat (sameIssue_pc x x hx.1 hx.2) (by simp [AV.flat]) (by simp [isa, snapF, snapL, e1, e2]) ?_
    simp -implicitDefEqProofs []
    refine AR_for (fun i => ⟨[(118, .int .i64 i), (117, .int .i64 x.its.length), (16, .ptr 16 0), (18, .bool true), (7, .ptr 7 0), (3, .ptr 3 0)], [(3, .box [.vsl (r.map isa)]), (7, .box [.vsl (r.map isa)]), (16, .box [.int .i64 x.d, .int .i64 x.l, .int .u8 x.k, .vsl [], .vsl []])]⟩) (fun _ => True) x.its.length (by (try simp only [zR_0, wR_0]); exact Weak.sub (by simp [lk, keptA, AV.keys, e1, e2]) (by simp [lk, keptO, keptA, AV.keys])) trivial ?_ ?_
    · intro i hi _
      rw [e1] at hi; exact absurd hi (Nat.not_lt_zero _)
    intro _
    refine GO_AR mixed 1000 ?_
    simp -implicitDefEqProofs []
    refine GO_ret mixed 1000 ?_
    simp -implicitDefEqProofs []
    refine AR_for (fun i => ⟨[(130, .int .i64 i), (129, .int .i64 x.dms.length), (16, .ptr 16 0), (18, .bool true), (7, .ptr 7 0), (3, .ptr 3 0)], [(3, .box [.vsl (r.map isa)]), (7, .box [.vsl (r.map isa)]), (16, .box [.int .i64 x.d, .int .i64 x.l, .int .u8 x.k, .vsl [], .vsl []])]⟩) (fun _ => True) x.dms.length (by (try simp only [wR_0]); exact Weak.sub (by simp [lk, keptA, AV.keys, e1, e2]) (by simp only [List.mem_cons, List.not_mem_nil, or_false, forall_eq_or_imp, forall_eq]; simp [lk, keptO, keptA, AV.keys])) trivial ?_ ?_
    · intro i hi _
      rw [e2] at hi; exact absurd hi (Nat.not_lt_zero _)
    intro _
    refine GO_AR mixed 1000 ?_
    simp -implicitDefEqProofs []
    refine GO_ret mixed 1000 ?_
    simp -implicitDefEqProofs []
    (first | refine CallK.of (same_pc r r h.1) (by simp) ?_ | refine CallD.of (same_pc r r h.1) (by simp) ?_)
    simp -implicitDefEqProofs []

  have hp := atP_pb hG r d l h ok.1 ok.2
  obtain ⟨⟨x, c⟩, ev⟩ : ∃ v, atP r d l = v := ⟨_, rfl⟩
  rw [ev] at hp hx
  simp only at hp hx
  have k5 : (x.its.map ita).all (fun r => r.all AV.pure) = true := by simp [ita, AV.pure]
  have k6 : (x.dms.map dma).all (fun r => r.all AV.pure) = true := by simp [dma, AV.pure]
  by_cases e1 : x.its = [] <;> by_cases e2 : x.dms = []
  · refine CallK.sem (CallSem.objs hp id (by simp [owQ, owO, e1, e2]) (by simp [owQ, owO, e1, e2, St.get, lk]) (by simp) rfl rfl) ?_
    simp -implicitDefEqProofs [owI, owQ, owV, owO, setsB, AV.ren, e1, e2]
    (first | refine CallK.of (atR_pc r d l h) (by simp) ?_ | refine CallD.of (atR_pc r d l h) (by simp) ?_)
    rw [at_eqV, ev]
    simp -implicitDefEqProofs [isa, e1, e2]
    (first | refine CallK.of (depthP_pc hG r n h) (by simp) ?_ | refine CallD.of (depthP_pc hG r n h) (by simp) ?_)
    simp -implicitDefEqProofs []
    (first | refine CallK.of (depthR_pc r n h) (by simp) ?_ | refine CallD.of (depthR_pc r n h) (by simp) ?_)
    rw [dep_eq]
    simp -implicitDefEqProofs []
    refine CallK.flat (sameIssue_pc x x hx.1 hx.2) (by simp [AV.flat]) (by simp [isa, snapF, snapL, e1, e2]) ?_
    simp -implicitDefEqProofs []
    refine AR_for (fun i => ⟨[(118, .int .i64 i), (117, .int .i64 x.its.length), (16, .ptr 16 0), (18, .bool true), (7, .ptr 7 0), (3, .ptr 3 0)], [(3, .box [.vsl (r.map isa)]), (7, .box [.vsl (r.map isa)]), (16, .box [.int .i64 x.d, .int .i64 x.l, .int .u8 x.k, .vsl [], .vsl []])]⟩) (fun _ => True) x.its.length (by (try simp only [zR_0, wR_0]); exact Weak.sub (by simp [lk, keptA, AV.keys, e1, e2]) (by simp [lk, keptO, keptA, AV.keys])) trivial ?_ ?_
    · intro i hi _
      rw [e1] at hi; exact absurd hi (Nat.not_lt_zero _)
    intro _
    refine GO_AR mixed 1000 ?_
    simp -implicitDefEqProofs []
    refine GO_ret mixed 1000 ?_
    simp -implicitDefEqProofs []
    refine AR_for (fun i => ⟨[(130, .int .i64 i), (129, .int .i64 x.dms.length), (16, .ptr 16 0), (18, .bool true), (7, .ptr 7 0), (3, .ptr 3 0)], [(3, .box [.vsl (r.map isa)]), (7, .box [.vsl (r.map isa)]), (16, .box [.int .i64 x.d, .int .i64 x.l, .int .u8 x.k, .vsl [], .vsl []])]⟩) (fun _ => True) x.dms.length (by (try simp only [wR_0]); exact Weak.sub (by simp [lk, keptA, AV.keys, e1, e2]) (by simp only [List.mem_cons, List.not_mem_nil, or_false, forall_eq_or_imp, forall_eq]; simp [lk, keptO, keptA, AV.keys])) trivial ?_ ?_
    · intro i hi _
      rw [e2] at hi; exact absurd hi (Nat.not_lt_zero _)
    intro _
    refine GO_AR mixed 1000 ?_
    simp -implicitDefEqProofs []
    refine GO_ret mixed 1000 ?_
    simp -implicitDefEqProofs []
    (first | refine CallK.of (same_pc r r h.1) (by simp) ?_ | refine CallD.of (same_pc r r h.1) (by simp) ?_)
    simp -implicitDefEqProofs []
  · refine CallK.sem (CallSem.objs hp id (by simp [owQ, owO, e1, e2]) (by simp [owQ, owO, e1, e2, St.get, lk]) (by simp) rfl rfl) ?_
    simp -implicitDefEqProofs [owI, owQ, owV, owO, setsB, ren_rowD, AV.ren, e1, e2]
    (first | refine CallK.of (atR_pc r d l h) (by simp) ?_ | refine CallD.of (atR_pc r d l h) (by simp) ?_)
    rw [at_eqV, ev]
    simp -implicitDefEqProofs [isa, e1]
    (first | refine CallK.of (depthP_pc hG r n h) (by simp) ?_ | refine CallD.of (depthP_pc hG r n h) (by simp) ?_)
    simp -implicitDefEqProofs []
    (first | refine CallK.of (depthR_pc r n h) (by simp) ?_ | refine CallD.of (depthR_pc r n h) (by simp) ?_)
    rw [dep_eq]
    simp -implicitDefEqProofs []
    refine CallK.flat (sameIssue_pc x x hx.1 hx.2) (by simp [AV.flat]) (by simp [isa, k6, snapF, snapL, St.get, lk, e1]) ?_
    simp -implicitDefEqProofs []
    refine AR_for (fun i => ⟨[(118, .int .i64 i), (117, .int .i64 x.its.length), (16, .ptr 16 0), (18, .bool true), (7, .ptr 7 0), (3, .ptr 3 0)], [(3, .box [.vsl (r.map isa)]), (7, .box [.vsl (r.map isa)]), (16, .box [.int .i64 x.d, .int .i64 x.l, .int .u8 x.k, .vsl [], .osl 1008 x.dms.length]), (1008, .row 3 (wR x.dms 0))]⟩) (fun _ => True) x.its.length (by (try simp only [wR_0]); exact Weak.sub (by simp [lk, keptA, AV.keys, e1, e2]) (by simp [lk, keptO, keptA, AV.keys, dma])) trivial ?_ ?_
    · intro i hi _
      rw [e1] at hi; exact absurd hi (Nat.not_lt_zero _)
    intro _
    refine GO_AR mixed 1000 ?_
    simp -implicitDefEqProofs []
    refine GO_ret mixed 1000 ?_
    simp -implicitDefEqProofs [wR_len]
    refine AR_for (fun i => ⟨[(130, .int .i64 i), (129, .int .i64 x.dms.length), (16, .ptr 16 0), (18, .bool true), (7, .ptr 7 0), (3, .ptr 3 0)], [(3, .box [.vsl (r.map isa)]), (7, .box [.vsl (r.map isa)]), (16, .box [.int .i64 x.d, .int .i64 x.l, .int .u8 x.k, .vsl [], .osl 1008 x.dms.length]), (1008, .row 3 (wR x.dms i))]⟩) (fun _ => True) x.dms.length (by (try simp only [wR_0]); exact Weak.sub (by simp [lk, keptA, AV.keys, e1, e2]) (by simp only [List.mem_cons, List.not_mem_nil, or_false, forall_eq_or_imp, forall_eq]; simp [lk, keptO, keptA, AV.keys, dma])) trivial ?_ ?_
    · intro i hi _
      refine GO_AR mixed 1000 ?_
      have h2 := hx.2
      unfold Sml at h2
      have w1 : IntKind.i64.wrap ((i : Int) + 1) = ((i + 1 : Nat) : Int) := wrapI (by omega) (by omega)
      have zl := wR_len x.dms i
      have za := wR_at hi (by omega)
      have zs := wR_set hi
      simp -implicitDefEqProofs [hi, w1, zl, za, zs]
      exact Weak.sub (by simp [lk, keptA, AV.keys]) (by simp only [List.mem_cons, List.not_mem_nil, or_false, forall_eq_or_imp, forall_eq, wR_kept, and_true]; simp [lk, keptO, keptA, AV.keys])
    intro _
    refine GO_AR mixed 1000 ?_
    simp -implicitDefEqProofs []
    refine GO_ret mixed 1000 ?_
    simp -implicitDefEqProofs []
    (first | refine CallK.of (same_pc r r h.1) (by simp) ?_ | refine CallD.of (same_pc r r h.1) (by simp) ?_)
    simp -implicitDefEqProofs []
  · refine CallK.sem (CallSem.objs hp id (by simp [owQ, owO, e1, e2]) (by simp [owQ, owO, e1, e2, St.get, lk]) (by simp) rfl rfl) ?_
    simp -implicitDefEqProofs [owI, owQ, owV, owO, setsB, ren_rowI, AV.ren, e1, e2]
    (first | refine CallK.of (atR_pc r d l h) (by simp) ?_ | refine CallD.of (atR_pc r d l h) (by simp) ?_)
    rw [at_eqV, ev]
    simp -implicitDefEqProofs [isa, e2]
    (first | refine CallK.of (depthP_pc hG r n h) (by simp) ?_ | refine CallD.of (depthP_pc hG r n h) (by simp) ?_)
    simp -implicitDefEqProofs []
    (first | refine CallK.of (depthR_pc r n h) (by simp) ?_ | refine CallD.of (depthR_pc r n h) (by simp) ?_)
    rw [dep_eq]
    simp -implicitDefEqProofs []
    refine CallK.flat (sameIssue_pc x x hx.1 hx.2) (by simp [AV.flat]) (by simp [isa, k5, snapF, snapL, St.get, lk, e2]) ?_
    simp -implicitDefEqProofs []
    refine AR_for (fun i => ⟨[(118, .int .i64 i), (117, .int .i64 x.its.length), (16, .ptr 16 0), (18, .bool true), (7, .ptr 7 0), (3, .ptr 3 0)], [(3, .box [.vsl (r.map isa)]), (7, .box [.vsl (r.map isa)]), (16, .box [.int .i64 x.d, .int .i64 x.l, .int .u8 x.k, .osl 1005 x.its.length, .vsl []]), (1005, .row 2 (zR x.its i))]⟩) (fun _ => True) x.its.length (by (try simp only [zR_0]); exact Weak.sub (by simp [lk, keptA, AV.keys, e1, e2]) (by simp [lk, keptO, keptA, AV.keys, ita])) trivial ?_ ?_
    · intro i hi _
      refine GO_AR mixed 1000 ?_
      have h1 := hx.1
      unfold Sml at h1
      have w1 : IntKind.i64.wrap ((i : Int) + 1) = ((i + 1 : Nat) : Int) := wrapI (by omega) (by omega)
      have zl := zR_len x.its i
      have za := zR_at hi (by omega)
      have zs := zR_set hi
      simp -implicitDefEqProofs [hi, w1, zl, za, zs]
      exact Weak.sub (by simp [lk, keptA, AV.keys]) (by simp only [List.mem_cons, List.not_mem_nil, or_false, forall_eq_or_imp, forall_eq, zR_kept, and_true]; simp [lk, keptO, keptA, AV.keys])
    intro _
    refine GO_AR mixed 1000 ?_
    simp -implicitDefEqProofs []
    refine GO_ret mixed 1000 ?_
    simp -implicitDefEqProofs []
    refine AR_for (fun i => ⟨[(130, .int .i64 i), (129, .int .i64 x.dms.length), (16, .ptr 16 0), (18, .bool true), (7, .ptr 7 0), (3, .ptr 3 0)], [(3, .box [.vsl (r.map isa)]), (7, .box [.vsl (r.map isa)]), (16, .box [.int .i64 x.d, .int .i64 x.l, .int .u8 x.k, .osl 1005 x.its.length, .vsl []]), (1005, .row 2 (zR x.its x.its.length))]⟩) (fun _ => True) x.dms.length (by (try simp only [wR_0]); exact Weak.sub (by simp [lk, keptA, AV.keys, e1, e2]) (by simp only [List.mem_cons, List.not_mem_nil, or_false, forall_eq_or_imp, forall_eq, zR_kept, and_true]; simp [lk, keptO, keptA, AV.keys])) trivial ?_ ?_
    · intro i hi _
      rw [e2] at hi; exact absurd hi (Nat.not_lt_zero _)
    intro _
    refine GO_AR mixed 1000 ?_
    simp -implicitDefEqProofs []
    refine GO_ret mixed 1000 ?_
    simp -implicitDefEqProofs []
    (first | refine CallK.of (same_pc r r h.1) (by simp) ?_ | refine CallD.of (same_pc r r h.1) (by simp) ?_)
    simp -implicitDefEqProofs []
  · refine CallK.sem (CallSem.objs hp id (by simp [owQ, owO, e1, e2]) (by simp [owQ, owO, e1, e2, St.get, lk]) (by simp) rfl rfl) ?_
    simp -implicitDefEqProofs [owI, owQ, owV, owO, setsB, ren_rowI, ren_rowD, AV.ren, e1, e2]
    (first | refine CallK.of (atR_pc r d l h) (by simp) ?_ | refine CallD.of (atR_pc r d l h) (by simp) ?_)
    rw [at_eqV, ev]
    simp -implicitDefEqProofs [isa]
    (first | refine CallK.of (depthP_pc hG r n h) (by simp) ?_ | refine CallD.of (depthP_pc hG r n h) (by simp) ?_)
    simp -implicitDefEqProofs []
    (first | refine CallK.of (depthR_pc r n h) (by simp) ?_ | refine CallD.of (depthR_pc r n h) (by simp) ?_)
    rw [dep_eq]
    simp -implicitDefEqProofs []
    refine CallK.flat (sameIssue_pc x x hx.1 hx.2) (by simp [AV.flat]) (by simp [isa, k5, k6, snapF, snapL, St.get, lk]) ?_
    simp -implicitDefEqProofs []
    refine AR_for (fun i => ⟨[(118, .int .i64 i), (117, .int .i64 x.its.length), (16, .ptr 16 0), (18, .bool true), (7, .ptr 7 0), (3, .ptr 3 0)], [(3, .box [.vsl (r.map isa)]), (7, .box [.vsl (r.map isa)]), (16, .box [.int .i64 x.d, .int .i64 x.l, .int .u8 x.k, .osl 1005 x.its.length, .osl 1008 x.dms.length]), (1005, .row 2 (zR x.its i)), (1008, .row 3 (wR x.dms 0))]⟩) (fun _ => True) x.its.length (by (try simp only [zR_0, wR_0]); exact Weak.sub (by simp [lk, keptA, AV.keys, e1, e2]) (by simp [lk, keptO, keptA, AV.keys, ita, dma])) trivial ?_ ?_
    · intro i hi _
      refine GO_AR mixed 1000 ?_
      have h1 := hx.1
      unfold Sml at h1
      have w1 : IntKind.i64.wrap ((i : Int) + 1) = ((i + 1 : Nat) : Int) := wrapI (by omega) (by omega)
      have zl := zR_len x.its i
      have za := zR_at hi (by omega)
      have zs := zR_set hi
      simp -implicitDefEqProofs [hi, w1, zl, za, zs]
      exact Weak.sub (by simp [lk, keptA, AV.keys]) (by simp only [List.mem_cons, List.not_mem_nil, or_false, forall_eq_or_imp, forall_eq, zR_kept, wR_kept, and_true]; simp [lk, keptO, keptA, AV.keys])
    intro _
    refine GO_AR mixed 1000 ?_
    simp -implicitDefEqProofs []
    refine GO_ret mixed 1000 ?_
    simp -implicitDefEqProofs [wR_len]
    refine AR_for (fun i => ⟨[(130, .int .i64 i), (129, .int .i64 x.dms.length), (16, .ptr 16 0), (18, .bool true), (7, .ptr 7 0), (3, .ptr 3 0)], [(3, .box [.vsl (r.map isa)]), (7, .box [.vsl (r.map isa)]), (16, .box [.int .i64 x.d, .int .i64 x.l, .int .u8 x.k, .osl 1005 x.its.length, .osl 1008 x.dms.length]), (1005, .row 2 (zR x.its x.its.length)), (1008, .row 3 (wR x.dms i))]⟩) (fun _ => True) x.dms.length (by (try simp only [wR_0]); exact Weak.sub (by simp [lk, keptA, AV.keys, e1, e2]) (by simp only [List.mem_cons, List.not_mem_nil, or_false, forall_eq_or_imp, forall_eq, zR_kept, and_true]; simp [lk, keptO, keptA, AV.keys, dma])) trivial ?_ ?_
    · intro i hi _
      refine GO_AR mixed 1000 ?_
      have h2 := hx.2
      unfold Sml at h2
      have w1 : IntKind.i64.wrap ((i : Int) + 1) = ((i + 1 : Nat) : Int) := wrapI (by omega) (by omega)
      have zl := wR_len x.dms i
      have za := wR_at hi (by omega)
      have zs := wR_set hi
      simp -implicitDefEqProofs [hi, w1, zl, za, zs]
      exact Weak.sub (by simp [lk, keptA, AV.keys]) (by simp only [List.mem_cons, List.not_mem_nil, or_false, forall_eq_or_imp, forall_eq, zR_kept, wR_kept, and_true]; simp [lk, keptO, keptA, AV.keys])
    intro _
    refine GO_AR mixed 1000 ?_
    simp -implicitDefEqProofs []
    refine GO_ret mixed 1000 ?_
    simp -implicitDefEqProofs []
    (first | refine CallK.of (same_pc r r h.1) (by simp) ?_ | refine CallD.of (same_pc r r h.1) (by simp) ?_)
    simp -implicitDefEqProofs []
end
end Go.Proofs.YtdpmioiamcgfkaaDoor
