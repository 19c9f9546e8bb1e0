/-
  Registers in order: their numbers; how long chains are, round by round; what depths and Check of the reference compute.
-/
import Derived.Test.YtdpmioiamcgfkaaDoorDe
namespace Go.Proofs.YtdpmioiamcgfkaaDoor
open Go.RowKit

/-- Issues are in the order of their drawings. -/
def Ord (r : List Iss) : Prop := ∀ i, i + 1 < r.length → (at' r i).d ≤ (at' r (i + 1)).d
theorem Ord.mono {r : List Iss} (h : Ord r) : ∀ {i j : Nat}, i ≤ j → j < r.length → (at' r i).d ≤ (at' r j).d := by
  intro i j hij hj
  induction j with
  | zero => obtain rfl : i = 0 := by omega
            exact Int.le_refl _
  | succ j ih =>
    by_cases e : i = j + 1
    · subst e; exact Int.le_refl _
    · exact Int.le_trans (ih (by omega) (by omega)) (h j hj)
theorem ord_of {r : List Iss} (h : listedB r = true) : Ord r := by
  intro i hi
  simp only [listedB, Bool.and_eq_true] at h
  have := range_all.1 h.1.1.2 (i + 1) hi
  simp only [ordB] at this
  split at this
  · cases this
  · omega

theorem numsN_spec {r : List Iss} (h : Ord r) : ∀ i, i ≤ r.length → (numsN r i).Pairwise (· < ·) ∧ (∀ y ∈ numsN r i, ∃ j, j < i ∧ (at' r j).d = y) ∧ ∀ j, j < i → (at' r j).d ∈ numsN r i := by
  intro i
  induction i with
  | zero => intro _; simp [numsN]
  | succ i ih =>
    intro hi
    obtain ⟨h1, h2, h3⟩ := ih (by omega)
    simp only [numsN]
    split
    · rename_i hb
      refine ⟨List.pairwise_append.2 ⟨h1, by simp, fun a ha b hb' => ?_⟩, fun y hy => ?_, fun j hj => ?_⟩
      · simp only [List.mem_singleton] at hb'
        subst hb'
        obtain ⟨j, hj, rfl⟩ := h2 a ha
        simp only [newB, Bool.or_eq_true, beq_iff_eq, Bool.not_eq_true', decide_eq_false_iff_not] at hb
        have m1 := h.mono (show j ≤ i - 1 by omega) (by omega)
        have m2 := h.mono (show i - 1 ≤ i by omega) (by omega)
        rcases hb with hb | hb
        · omega
        · omega
      · rcases List.mem_append.1 hy with hy | hy
        · obtain ⟨j, hj, e⟩ := h2 y hy; exact ⟨j, by omega, e⟩
        · exact ⟨i, by omega, (List.mem_singleton.1 hy).symm⟩
      · by_cases e : j = i
        · subst e; simp
        · exact List.mem_append.2 (.inl (h3 j (by omega)))
    · rename_i hb
      refine ⟨h1, fun y hy => ?_, fun j hj => ?_⟩
      · obtain ⟨j, hj, e⟩ := h2 y hy; exact ⟨j, by omega, e⟩
      · by_cases e : j = i
        · subst e
          simp only [newB, Bool.or_eq_true, beq_iff_eq, Bool.not_eq_true', decide_eq_false_iff_not, not_or, Decidable.not_not] at hb
          rw [← hb.2]
          exact h3 _ (by omega)
        · exact h3 j (by omega)

theorem nums_lt {r : List Iss} (h : Ord r) : (nums r).Pairwise (· < ·) := (numsN_spec h _ (Nat.le_refl _)).1
theorem nums_nodup {r : List Iss} (h : Ord r) : (nums r).Nodup := (nums_lt h).imp fun h => Int.ne_of_lt h
theorem nums_of {r : List Iss} (h : Ord r) {n : Int} (hn : n ∈ nums r) : ∃ i, ∃ hi : i < r.length, r[i].d = n := by
  obtain ⟨i, hi, e⟩ := (numsN_spec h _ (Nat.le_refl _)).2.1 n hn
  exact ⟨i, hi, by rw [← at_eq hi]; exact e⟩
theorem nums_mem {r : List Iss} (h : Ord r) {i : Nat} (hi : i < r.length) : r[i].d ∈ nums r := by
  have := (numsN_spec h _ (Nat.le_refl _)).2.2 i hi
  rwa [at_eq hi] at this

/-- How long chains are, one round more. -/
def dvIt (f : Int → Int) (m : Int) (its : List (Int × Int)) : Int := its.foldl (fun m y => max m (1 + f y.1)) m
def dvN (r : List Iss) (f : Int → Int) (n : Int) : Nat → Int
  | 0 => 0
  | i + 1 => if (at' r i).d = n then dvIt f (max (dvN r f n i) 1) (at' r i).its else dvN r f n i
def Dv (r : List Iss) : Nat → Int → Int
  | 0, _ => 0
  | k + 1, n => dvN r (Dv r k) n r.length

theorem dvIt_bd {f : Int → Int} {K : Int} (hf : ∀ n, 0 ≤ f n ∧ f n ≤ K) : ∀ (its : List (Int × Int)) (m : Int), 0 ≤ m → m ≤ K + 1 → 0 ≤ dvIt f m its ∧ dvIt f m its ≤ K + 1
  | [], m, h1, h2 => ⟨h1, h2⟩
  | y :: its, m, h1, h2 => by
    have := hf y.1
    exact dvIt_bd hf its (max m (1 + f y.1)) (by omega) (by omega)
theorem dvN_bd (r : List Iss) {f : Int → Int} {K : Int} (hK : 0 ≤ K) (hf : ∀ n, 0 ≤ f n ∧ f n ≤ K) (n : Int) : ∀ i, 0 ≤ dvN r f n i ∧ dvN r f n i ≤ K + 1
  | 0 => by simp only [dvN]; omega
  | i + 1 => by
    have := dvN_bd r hK hf n i
    simp only [dvN]
    split
    · exact dvIt_bd hf _ _ (by omega) (by omega)
    · exact this
theorem Dv_bd (r : List Iss) : ∀ k n, 0 ≤ Dv r k n ∧ Dv r k n ≤ k
  | 0, n => by simp [Dv]
  | k + 1, n => by
    have := dvN_bd r (K := (k : Int)) (by omega) (Dv_bd r k) n r.length
    simp only [Dv]; omega

/-- A row of numbers, by the drawings. -/
def rowF (l : List Int) (g : Int → Int) : List (List AV) := l.map fun n => [.int .i64 (g n)]
theorem rowF_set {l : List Int} (hn : l.Nodup) {g : Int → Int} {j : Nat} {d v : Int} (hj : l[j]? = some d) : (rowF l g).set j [.int .i64 v] = rowF l fun n => if n = d then v else g n := by
  apply List.ext_getElem?
  intro i
  obtain ⟨hlt, he⟩ := List.getElem?_eq_some_iff.1 hj
  simp only [rowF, List.getElem?_set, List.getElem?_map, List.length_map]
  by_cases e : j = i
  · subst e
    simp [hlt, he]
  · rw [if_neg e]
    cases hi : l[i]? with
    | none => rfl
    | some x =>
      obtain ⟨hlt2, he2⟩ := List.getElem?_eq_some_iff.1 hi
      have : x ≠ d := fun q => e ((List.getElem_inj hn).1 (by rw [he, he2, q]))
      simp [this]
theorem rowF_get {l : List Int} {g : Int → Int} {j : Nat} {d : Int} (hj : l[j]? = some d) : (rowF l g)[j]? = some [.int .i64 (g d)] := by simp [rowF, hj]
theorem rowF_len {l : List Int} {g : Int → Int} : (rowF l g).length = l.length := by simp [rowF]
theorem rowF_pure {l : List Int} {g : Int → Int} : (rowF l g).all (fun r => r.all AV.pure) = true := by simp [rowF, AV.pure]
theorem rowF_all {l : List Int} {g : Int → Int} {p : List AV → Bool} : (rowF l g).all p = l.all fun n => p [.int .i64 (g n)] := by simp [rowF, List.all_map, Function.comp_def]
attribute [simp] rowF_all
theorem rowF_at {l : List Int} {g : Int → Int} {j : Nat} (h : j < (rowF l g).length) : (rowF l g)[j] = [.int .i64 (g (l[j]'(by simpa [rowF] using h)))] := by simp [rowF]
attribute [simp] rowF_at rowF_len
theorem rowF_rep {l : List Int} : List.replicate l.length [AV.int .i64 0] = rowF l fun _ => 0 := by
  simp only [rowF]; induction l with
  | nil => rfl
  | cons x l ih => simp [List.replicate_succ, ih]

theorem dvIt_take (f : Int → Int) (m : Int) (its : List (Int × Int)) (k : Nat) (h : k < its.length) : dvIt f m (its.take (k + 1)) = max (dvIt f m (its.take k)) (1 + f its[k].1) := by
  rw [List.take_succ_eq_append_getElem h, dvIt, List.foldl_append]; rfl
theorem ite_same {d : Int} {v v0 : Int} {g : Int → Int} : (fun n => if n = d then v else if n = d then v0 else g n) = fun n => if n = d then v else g n := by
  funext n; split <;> rfl

theorem Weak.trans {a b c : St} (h : Weak a b) (g : Weak b c) : Weak a c := fun R x W s => g R x W (h R x W s)

section
variable {G : Nat → Option (List AV)}

set_option maxRecDepth 8000 in
theorem depthsR_pc (r : List Iss) (h : Wf r) (hL : listedB r = true) : PC Tryd.prog G 71 [rega r] (.vsl (rowF (nums r) (Dv r ((nums r).length + 1)))) := by
  (refine pc_ref02_depths (Nat.le_of_ble_eq_true rfl) fun R hG hrd => GO_AR mixed 1000 ?_; subst hG)
  have hs := h.1.1
  unfold Sml at hs
  have hO := ord_of hL
  have hl := nums_len r
  have hnd := nums_nodup hO
  have hL2 := hL
  simp only [listedB, Bool.and_eq_true, inB, decide_eq_true_eq] at hL2
  obtain ⟨⟨⟨⟨l1, l2⟩, l3⟩, l4⟩, l5⟩ := hL2
  have l1' := of_decide_eq_true l1
  have hne : r ≠ [] := by intro e; subst e; simp at l1'
  have hns : Sml (nums r) := by unfold Sml; omega
  simp -implicitDefEqProofs [rc_ref02_depths, rr_ref02_depths, rega]
  (first | refine CallK.of (numbers_pc r h.1.1 hne) (by simp) ?_ | refine CallD.of (numbers_pc r h.1.1 hne) (by simp) ?_)
  have b1 : ((nums r).length : Int) ≤ 16777216 := by omega
  simp -implicitDefEqProofs [b1, rowF_rep]
  refine AR_for (fun k => ⟨[(5, .int .i64 k), (4, .vsl (rowF (nums r) (Dv r k))), (3, .vsl ((nums r).map ia)), (1, .ptr 1 0)], [(1, .box [.vsl (r.map isa)])]⟩) (fun _ => True) ((nums r).length + 1) ?_ trivial ?_ ?_
  · refine Weak.trans (Weak.frz (fun k => k == 15) _) ?_
    have e0 : (fun n => Dv r 0 n) = fun _ => 0 := rfl
    exact Weak.sub (by simp [lk, keptA, AV.keys, frzSt, frzA, frzO, frz, snapF, St.get, rowF_len, rowF_pure, Dv, Function.const]) (by simp [lk, keptO, keptA, AV.keys, frzSt, frzA, frzO, frz]) (by simp [frzSt, lk]; try omega)
  · intro k hk _
    refine GO_AR mixed 1000 ?_
    have k1 : (k : Int) ≤ (nums r).length := by omega
    simp -implicitDefEqProofs [k1, b1, rowF_rep]
    have bd := Dv_bd r k
    have hkb : (k : Int) ≤ 61 := by omega
    refine AR_for (fun i => ⟨[(7, .int .i64 i), (6, .osl 24 (nums r).length), (5, .int .i64 k), (4, .vsl (rowF (nums r) (Dv r k))), (3, .vsl ((nums r).map ia)), (1, .ptr 1 0)], [(1, .box [.vsl (r.map isa)]), (24, .row 1 (rowF (nums r) fun n => dvN r (Dv r k) n i))]⟩) (fun _ => True) r.length (by (first | exact Weak.tm (by simp [lk, dvN]) | exact Weak.sub (by simp [lk, keptA, AV.keys, dvN]) (by simp [lk, keptO, keptA, AV.keys, dvN]))) trivial ?_ ?_
    · intro i hi _
      refine GO_AR mixed 1000 ?_
      have w1 : IntKind.i64.wrap ((i : Int) + 1) = ((i + 1 : Nat) : Int) := wrapI (by omega) (by omega)
      have a1 := at_eq hi
      have hx := (h.1.2 r[i] (List.getElem_mem hi)).1
      unfold Sml at hx
      have hits : ∀ m (hm : m < r[i].its.length), r[i].its[m].1 ∈ nums r := fun m hm =>
        of_decide_eq_true (List.all_eq_true.1 (List.all_eq_true.1 l4 _ (List.getElem_mem hi)) _ (List.getElem_mem hm))
      simp -implicitDefEqProofs [hi, isa]
      (first | refine CallK.of (index_pc (nums r) _ hns) (by simp) ?_ | refine CallD.of (index_pc (nums r) _ hns) (by simp) ?_)
      obtain ⟨j, hj, hlt, hget⟩ := idx_mem (nums_mem hO hi)
      rw [hj]
      have hset := fun g v => rowF_set (g := g) (v := v) hnd hget
      have hgt : (nums r)[j] = r[i].d := (List.getElem?_eq_some_iff.1 hget).2
      simp -implicitDefEqProofs [hlt, hgt, hset]
      refine AR_for (fun m => ⟨[(10, .int .i64 m), (9, .int .i64 j), (8, .ptr 8 0), (7, .int .i64 i), (6, .osl 24 (nums r).length), (5, .int .i64 k), (4, .vsl (rowF (nums r) (Dv r k))), (3, .vsl ((nums r).map ia)), (1, .ptr 1 0)],
        [(1, .box [.vsl (r.map isa)]), (8, .box (isa r[i])), (24, .row 1 (rowF (nums r) fun n => if n = r[i].d then dvIt (Dv r k) (max (dvN r (Dv r k) r[i].d i) 1) (r[i].its.take m) else dvN r (Dv r k) n i))]⟩) (fun _ => True) r[i].its.length (by (first | exact Weak.tm (by simp [lk, dvIt, isa]) | exact Weak.sub (by simp [lk, keptA, AV.keys, dvIt, isa]) (by simp [lk, keptO, keptA, AV.keys, dvIt, isa]))) trivial ?_ ?_
      · intro m hm _
        refine GO_AR mixed 1000 ?_
        have w2 : IntKind.i64.wrap ((m : Int) + 1) = ((m + 1 : Nat) : Int) := wrapI (by omega) (by omega)
        obtain ⟨j2, hj2, hlt2, hget2⟩ := idx_mem (hits m hm)
        have hgt2 : (nums r)[j2] = r[i].its[m].1 := (List.getElem?_eq_some_iff.1 hget2).2
        have bd2 := bd r[i].its[m].1
        have w3 : IntKind.i64.wrap (1 + Dv r k r[i].its[m].1) = 1 + Dv r k r[i].its[m].1 := wrapI (by omega) (by omega)
        simp -implicitDefEqProofs [isa, hm, ita, hlt, hgt]
        (first | refine CallK.of (index_pc (nums r) _ hns) (by simp) ?_ | refine CallD.of (index_pc (nums r) _ hns) (by simp) ?_)
        rw [hj2]
        have tk := dvIt_take (Dv r k) (max (dvN r (Dv r k) r[i].d i) 1) r[i].its m hm
        simp -implicitDefEqProofs [hlt2, hgt2, w2, w3, hlt, hgt, hset, ite_same]
        refine ⟨rfl, ?_⟩
        rw [← tk]
        (first | exact Weak.tm (by simp [lk, isa]) | exact Weak.sub (by simp [lk, keptA, AV.keys, isa]) (by simp [lk, keptO, keptA, AV.keys, isa]))
      · intro _
        refine GO_AR mixed 1000 ?_
        simp -implicitDefEqProofs [isa]
        refine GO_ret mixed 1000 ?_
        simp -implicitDefEqProofs [w1]
        have e : (fun n => if n = r[i].d then dvIt (Dv r k) (max (dvN r (Dv r k) r[i].d i) 1) r[i].its else dvN r (Dv r k) n i) = fun n => dvN r (Dv r k) n (i + 1) := by
          funext n
          simp only [dvN, a1]
          by_cases q : r[i].d = n
          · subst q; simp
          · rw [if_neg q, if_neg (fun e => q e.symm)]
        rw [e]
        (first | exact Weak.tm (by simp [lk]) | exact Weak.sub (by simp [lk, keptA, AV.keys]) (by simp [lk, keptO, keptA, AV.keys]))
    · intro _
      refine GO_AR mixed 1000 ?_
      simp -implicitDefEqProofs []
      refine GO_ret mixed 1000 ?_
      have w1 : IntKind.i64.wrap ((k : Int) + 1) = ((k + 1 : Nat) : Int) := wrapI (by omega) (by omega)
      simp -implicitDefEqProofs [w1]
      have e : (fun n => dvN r (Dv r k) n r.length) = Dv r (k + 1) := rfl
      rw [e]
      refine Weak.trans (Weak.frz (fun k => k == 24) _) ?_
      exact Weak.sub (by simp [lk, keptA, AV.keys, frzSt, frzA, frzO, frz, snapF, St.get, rowF_pure]) (by simp [lk, keptO, keptA, AV.keys, frzSt, frzA, frzO, frz]) (by simp [frzSt, lk]; try omega)
  · intro _
    refine GO_AR mixed 1000 ?_
    have k1 : ¬ ((nums r).length : Int) + 1 ≤ (nums r).length := by omega
    simp -implicitDefEqProofs [k1]
    refine GO_ret mixed 1000 ?_
    simp -implicitDefEqProofs []
end
end Go.Proofs.YtdpmioiamcgfkaaDoor
