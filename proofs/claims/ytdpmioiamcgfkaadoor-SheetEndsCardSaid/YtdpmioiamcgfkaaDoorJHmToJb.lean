/-
  What the outright laws choose: letters, drawings.
-/
import Derived.Test.YtdpmioiamcgfkaaDoorJRcLToRcD
import Derived.Test.YtdpmioiamcgfkaaDoorJGaToUo
import Derived.Test.YtdpmioiamcgfkaaDoorJAmOToMath
import Derived.Test.YtdpmioiamcgfkaaDoorProg
import Derived.Test.YtdpmioiamcgfkaaDoorJEaToFd
set_option linter.unusedSimpArgs false
set_option linter.unusedVariables false
namespace Go.Proofs.YtdpmioiamcgfkaaDoor
open Go.RowKit

def ua (n : Int) : List AV := [.int .u32 n]
theorem bounds_u32 {n : Int} (h : (Lit.int .u32 n).wf = true) : 0 ≤ n ∧ n ≤ 4294967295 := by
  simp [Lit.wf, IntKind.min, IntKind.max, IntKind.signed, IntKind.bits] at h
  omega
theorem u32_inv {xs : List AV} (h : TVs [.int .u32] xs) : ∃ n : Int, xs = ua n ∧ (0 ≤ n ∧ n ≤ 4294967295) := by
  obtain ⟨x0, _, rfl, h0, h⟩ := h.cons_inv
  obtain rfl := h.nil_inv
  obtain ⟨n, rfl, hb⟩ := h0.int_inv
  exact ⟨n, rfl, bounds_u32 hb⟩
def chV (b : List Int) (i : Nat) : Int := if b = [] then 0 else b.getD (i % b.length) 0
def Ubs (b : List Int) : Prop := ∀ n ∈ b, 0 ≤ n ∧ n ≤ 4294967295
theorem chV_bd {b : List Int} (h : Ubs b) (i : Nat) : 0 ≤ chV b i ∧ chV b i ≤ 4294967295 := by
  unfold chV
  split
  · omega
  · rename_i hne
    have hl : 0 < b.length := List.length_pos_iff.2 hne
    have hi : i % b.length < b.length := Nat.mod_lt _ hl
    have e : b.getD (i % b.length) 0 = b[i % b.length] := by simp [List.getD_eq_getElem?_getD, hi]
    rw [e]; exact h _ (List.getElem_mem hi)
def lsE (r : List Iss) (b : List Int) (j : Nat) : Int := 1 + (chV b j).tmod (lastV r ((nums r).getD j 0))
def lsV (r : List Iss) (b : List Int) (i : Nat) : List Int := (List.range i).map (lsE r b)
theorem lsV_succ (r : List Iss) (b : List Int) (i : Nat) : lsV r b (i + 1) = lsV r b i ++ [lsE r b i] := by rw [lsV, List.range_succ, List.map_append]; rfl
theorem lsV_len (r : List Iss) (b : List Int) (i : Nat) : (lsV r b i).length = i := by simp [lsV]
theorem last_bd {r : List Iss} (hL : listedB r = true) {n : Int} (hn : n ∈ nums r) : 1 ≤ lastV r n ∧ lastV r n ≤ 8 := by
  obtain ⟨i, hi, e⟩ := nums_of (ord_of hL) hn
  have hm := List.getElem_mem hi
  have hf := find_mem hL hm
  have h1 : inR r[i].l 1 (lastV r n) = true := (find_iff hL n r[i].l).1 (by rw [← e, hf]; rfl)
  have h2 := of_decide_eq_true h1
  refine ⟨by omega, ?_⟩
  have h3 : (findN n (lastV r n) r).isSome = true := (find_iff hL n (lastV r n)).2 (decide_eq_true (by omega))
  obtain ⟨x, hx⟩ := Option.isSome_iff_exists.1 h3
  have h4 := findN_mem hx
  have h5 := listed_okN hL x h4.1
  have := h5.2.2.2
  omega
theorem tmod_bd {a b : Int} (h0 : 0 ≤ a) (h1 : 1 ≤ b) : 0 ≤ a.tmod b ∧ a.tmod b < b := ⟨Int.tmod_nonneg b h0, Int.tmod_lt_of_pos a (by omega)⟩
theorem lsV_ok {r : List Iss} (hL : listedB r = true) {b : List Int} (hb : Ubs b) : ltB r (lsV r b (nums r).length) = true := by
  simp only [ltB, Bool.and_eq_true, decide_eq_true_eq, lsV_len, true_and]
  rw [range_all]
  intro j hj
  have e : (lsV r b (nums r).length).getD j 0 = lsE r b j := by simp [lsV, List.getD_eq_getElem?_getD, hj]
  rw [e]
  have hn : (nums r).getD j 0 ∈ nums r := by
    have : (nums r).getD j 0 = (nums r)[j] := by simp [List.getD_eq_getElem?_getD, hj]
    rw [this]; exact List.getElem_mem hj
  have h1 := last_bd hL hn
  have h2 := tmod_bd (chV_bd hb j).1 h1.1
  unfold lsE
  exact decide_eq_true (by omega)
def readyB (r : List Iss) : Bool := !greatB r && decide (chkV r = 0)
theorem ready_ok {r : List Iss} (h : readyB r = true) (hk : ∀ x ∈ r, KOk x) : Wf r ∧ openV r = 0 := by
  simp only [readyB, Bool.and_eq_true, Bool.not_eq_true', decide_eq_true_eq] at h
  exact ⟨great_wf h.1 hk, by rw [open_chk]; exact h.2⟩
theorem nums_ne {r : List Iss} (hL : listedB r = true) : nums r ≠ [] := by
  have h := listed_60 hL
  have := nums_mem (ord_of hL) (show 0 < r.length by omega)
  intro e; rw [e] at this; cases this
/-- The drawing of a number. -/
def drV (r : List Iss) (n : Int) : Int := (nums r).getD (n.tmod (nums r).length).toNat 0
theorem drV_mem {r : List Iss} (hL : listedB r = true) {n : Int} (h0 : 0 ≤ n) : drV r n ∈ nums r := by
  have hl : 0 < (nums r).length := List.length_pos_iff.2 (nums_ne hL)
  have h1 := tmod_bd (b := (nums r).length) h0 (by omega)
  have hi : (n.tmod (nums r).length).toNat < (nums r).length := by omega
  rw [drV, List.getD_eq_getElem?_getD, List.getElem?_eq_getElem hi]
  exact List.getElem_mem hi
def lsS (r : List Iss) (b : List Int) : Nat → St
  | 0 => ⟨[(11, .int .i64 0), (10, .int .i64 (nums r).length), (9, .vsl ((nums r).map ia)), (5, .nils), (1, .vsl (b.map ua)), (2, .ptr 2 0)], [(2, .box [.vsl (r.map isa)])]⟩
  | i + 1 => ⟨[(11, .int .i64 (i + 1 : Nat)), (10, .int .i64 (nums r).length), (9, .vsl ((nums r).map ia)), (5, .osl 26 (i + 1)), (1, .vsl (b.map ua)), (2, .ptr 2 0)], [(2, .box [.vsl (r.map isa)]), (26, .row 1 ((lsV r b (i + 1)).map ia))]⟩

section
variable {G : Nat → Option (List AV)}

theorem ready_pc (r : List Iss) (hk : ∀ x ∈ r, KOk x) : PC Tryd.prog G 52 [rega r] (.bool (readyB r)) := by
  have hg := greatA_pc (G := G) r
  have hc := fun h => checkR_pc (G := G) r (great_wf h hk)
  rw [rega] at hg hc
  (refine pc_law02_ready (Nat.le_of_ble_eq_true rfl) fun R hG hrd => GO_AR mixed 1000 ?_; subst hG)
  simp -implicitDefEqProofs [rc_law02_ready, rr_law02_ready, rega]
  (first | refine CallK.of (hg) (by simp) ?_ | refine CallD.of (hg) (by simp) ?_)
  cases g : greatB r
  · simp -implicitDefEqProofs []
    (first | refine CallK.of (hc g) (by simp) ?_ | refine CallD.of (hc g) (by simp) ?_)
    simp -implicitDefEqProofs [readyB, g]
  · simp -implicitDefEqProofs [readyB, g]

theorem choose_pc (b : List Int) (i : Nat) (hb : Ubs b) (hi : i ≤ 1000) : PC Tryd.prog G 97 [.vsl (b.map ua), .int .i64 i] (.int .i64 (chV b i)) := by
  (refine pc_law02_choose (Nat.le_of_ble_eq_true rfl) fun R hG hrd => GO_AR mixed 1000 ?_; subst hG)
  by_cases e : b = []
  · simp -implicitDefEqProofs [rc_law02_choose, rr_law02_choose, e, chV]
  · have hl : 0 < b.length := List.length_pos_iff.2 e
    have k0 : ¬ (b.length : Int) = 0 := by omega
    have k0' : ¬ b.length = 0 := by omega
    have eq : (i : Int).tmod (b.length : Int) = ((i % b.length : Nat) : Int) := by rw [Int.tmod_eq_emod_of_nonneg (by omega)]; rfl
    have em : ((i : Int).tmod (b.length : Int)).toNat = i % b.length := by rw [eq]; rfl
    have em0 : 0 ≤ (i : Int).tmod (b.length : Int) := by rw [eq]; omega
    have hm : i % b.length < b.length := Nat.mod_lt _ hl
    have hx := hb b[i % b.length] (List.getElem_mem hm)
    have w1 : IntKind.i64.wrap b[i % b.length] = b[i % b.length] := wrapI (by omega) (by omega)
    have ev : chV b i = b[i % b.length] := by rw [chV, if_neg e]; simp [List.getD_eq_getElem?_getD, hm]
    simp -implicitDefEqProofs [rc_law02_choose, rr_law02_choose, k0, k0', em, em0, hm, ua, w1, ev]

theorem hasL_pc (l : List Int) (n : Int) (h : Sml l) : PC Tryd.prog G 57 [.vsl (l.map ia), .int .i64 n] (.bool (decide (n ∈ l))) := by
  (refine pc_law02_has (Nat.le_of_ble_eq_true rfl) fun R hG hrd => GO_AR mixed 1000 ?_; subst hG)
  simp -implicitDefEqProofs [rc_law02_has, rr_law02_has]
  (first | refine CallK.of (index_pc l n h) (by simp) ?_ | refine CallD.of (index_pc l n h) (by simp) ?_)
  have e : decide (0 ≤ idx l n) = decide (n ∈ l) := by
    have := idx_neg (l := l) (n := n)
    by_cases h : n ∈ l
    · rw [decide_eq_true h, decide_eq_true]; have : ¬ idx l n < 0 := fun h2 => (this.1 h2) h
      omega
    · rw [decide_eq_false h, decide_eq_false]; have := this.2 h
      omega
  simp -implicitDefEqProofs [e]

theorem drawing_pc (r : List Iss) (n : Int) (h : Wf r) (hL : listedB r = true) (h0 : 0 ≤ n) (h1 : n ≤ 255) : PC Tryd.prog G 54 [rega r, .int .u8 n] (.int .i64 (drV r n)) := by
  have hne : r ≠ [] := by rintro rfl; have := listed_60 hL; simp at this
  have hl : 0 < (nums r).length := List.length_pos_iff.2 (nums_ne hL)
  have hn := numbers_pc (G := G) r h.1.1 hne
  rw [rega] at hn
  have b1 := tmod_bd (b := (nums r).length) h0 (by omega)
  have hi : (n.tmod (nums r).length).toNat < (nums r).length := by omega
  have k0 : ¬ ((nums r).length : Int) = 0 := by omega
  have k0' : ¬ (nums r).length = 0 := by omega
  have w1 : IntKind.i64.wrap n = n := wrapI (by omega) (by omega)
  have ev : drV r n = (nums r)[(n.tmod (nums r).length).toNat] := by rw [drV, List.getD_eq_getElem?_getD, List.getElem?_eq_getElem hi]; rfl
  (refine pc_law02_drawing (Nat.le_of_ble_eq_true rfl) fun R hG hrd => GO_AR mixed 1000 ?_; subst hG)
  simp -implicitDefEqProofs [rc_law02_drawing, rr_law02_drawing, rega]
  (first | refine CallK.of (hn) (by simp) ?_ | refine CallD.of (hn) (by simp) ?_)
  simp -implicitDefEqProofs [w1, k0, k0', b1.1, hi, ia, ev]

theorem lettersL_pc (r : List Iss) (b : List Int) (h : Wf r) (hL : listedB r = true) (hb : Ubs b) : PC Tryd.prog G 53 [rega r, .vsl (b.map ua)] (.vsl ((lsV r b (nums r).length).map ia)) := by
  have hne : r ≠ [] := by rintro rfl; have := listed_60 hL; simp at this
  have hl : 0 < (nums r).length := List.length_pos_iff.2 (nums_ne hL)
  have hl2 := listed_20 hL
  have hn := numbers_pc (G := G) r h.1.1 hne
  rw [rega] at hn
  (refine pc_law02_letters (Nat.le_of_ble_eq_true rfl) fun R hG hrd => GO_AR mixed 1000 ?_; subst hG)
  simp -implicitDefEqProofs [rc_law02_letters, rr_law02_letters, rega]
  (first | refine CallK.of (hn) (by simp) ?_ | refine CallD.of (hn) (by simp) ?_)
  simp -implicitDefEqProofs []
  refine AR_for (lsS r b) (fun _ => True) (nums r).length (by simp only [lsS]; (first | exact Weak.tm (by simp [lk]) | exact Weak.sub (by simp [lk, keptA, AV.keys]) (by simp [lk, keptO, keptA, AV.keys]))) trivial ?_ ?_
  · intro i hi _
    refine GO_AR mixed 1000 ?_
    have hm := List.getElem_mem hi
    have lb := last_bd hL hm
    have cb := chV_bd hb i
    have lo := lastOf_pc (G := R.G) r (nums r)[i] h.1.1
    rw [rega] at lo
    have k0 : ¬ lastV r (nums r)[i] = 0 := by omega
    have tb := tmod_bd cb.1 lb.1
    have w2 : IntKind.i64.wrap (1 + (chV b i).tmod (lastV r (nums r)[i])) = 1 + (chV b i).tmod (lastV r (nums r)[i]) := wrapI (by omega) (by omega)
    have ee : lsE r b i = 1 + (chV b i).tmod (lastV r (nums r)[i]) := by rw [lsE]; simp [List.getD_eq_getElem?_getD, hi]
    have sc := lsV_succ r b i
    rw [ee] at sc
    have ln := lsV_len r b i
    cases i with
    | zero =>
      have w1 : IntKind.i64.wrap 1 = 1 := rfl
      have sc0 : lsV r b 1 = [1 + (chV b 0).tmod (lastV r (nums r)[0])] := by rw [sc]; rfl
      simp -implicitDefEqProofs [lsS, hi, ia]
      (first | refine CallK.of (choose_pc b 0 hb (by omega)) (by simp) ?_ | refine CallD.of (choose_pc b 0 hb (by omega)) (by simp) ?_)
      simp -implicitDefEqProofs []
      (first | refine CallK.of (lo) (by simp) ?_ | refine CallD.of (lo) (by simp) ?_)
      simp -implicitDefEqProofs [k0, w2, w1]
      refine ⟨rfl, ?_⟩
      exact Weak.sub (by simp [lsS, lk, keptA, AV.keys]) (by simp [lsS, lk, keptO, keptA, AV.keys, sc0, ia])
    | succ i =>
      have w1 : IntKind.i64.wrap ((i : Int) + 1 + 1) = (i : Int) + 1 + 1 := wrapI (by omega) (by omega)
      have k1 : (i : Int) + 1 < (nums r).length := by omega
      have k2 : ((i : Int) + 1).toNat = i + 1 := by omega
      have k3 : (0 : Int) ≤ (i : Int) + 1 := by omega
      have b2 : (i + 1 + 1) * 8 ≤ 70368744177664 := by omega
      have hc := choose_pc (G := R.G) b (i + 1) hb (by omega)
      rw [Int.natCast_add, Int.natCast_one] at hc
      simp -implicitDefEqProofs [lsS, hi, k1, k2, k3, ia]
      (first | refine CallK.of (hc) (by simp) ?_ | refine CallD.of (hc) (by simp) ?_)
      simp -implicitDefEqProofs []
      (first | refine CallK.of (lo) (by simp) ?_ | refine CallD.of (lo) (by simp) ?_)
      simp -implicitDefEqProofs [k0, w2, w1, ln, b2]
      refine ⟨rfl, ?_⟩
      have e1 : (lsV r b (i + 1)).map ia ++ [[AV.int .i64 (1 + (chV b (i + 1)).tmod (lastV r (nums r)[i + 1]))]] = (lsV r b (i + 1 + 1)).map ia := by rw [sc, List.map_append]; rfl
      rw [e1]
      ((try simp only [lsS]); refine Weak.sub (by simp [lk, keptA, AV.keys, lsS]) ?_; simp only [lsS, List.cons_append, List.nil_append, List.mem_cons, List.not_mem_nil, or_false, forall_eq_or_imp, forall_eq, ia_kept, and_true]; (try simp [lk, keptO, keptA, AV.keys, lsS]))
  · intro _
    refine GO_AR mixed 1000 ?_
    obtain ⟨n, hn⟩ : ∃ n, (nums r).length = n + 1 := ⟨(nums r).length - 1, by omega⟩
    have k1 : ¬ (n : Int) + 1 < n + 1 := by omega
    have pu : ((lsV r b (n + 1)).map ia).all (fun x => x.all AV.pure) = true := by simp [ia, AV.pure]
    have ln := lsV_len r b (n + 1)
    rw [hn]
    simp -implicitDefEqProofs [lsS, hn, k1]
    refine GO_ret mixed 1000 ?_
    simp -implicitDefEqProofs [pu, ln]
end
end Go.Proofs.YtdpmioiamcgfkaaDoor

/-! Another letter of a drawing: plain. -/
namespace Go.Proofs.YtdpmioiamcgfkaaDoor
open Go.RowKit

theorem ask_ok {r : List Iss} {lt : List Int} {n : Int} (ho : openV r = 0) (hlt : ltB r lt = true) (hn : n ∈ nums r) : askV r lt n = 0 := by simp [askV, ho, hlt, hn]
end Go.Proofs.YtdpmioiamcgfkaaDoor

/-! The law SheetLetter, by the abstract machine. -/
namespace Go.Proofs.YtdpmioiamcgfkaaDoor
open Go.RowKit
section
variable {G : Nat → Option (List AV)}

end
end Go.Proofs.YtdpmioiamcgfkaaDoor

/-! Changes that turn one issue into another: plain. -/
namespace Go.Proofs.YtdpmioiamcgfkaaDoor
open Go.RowKit

theorem dpLk_key {n : Int} : ∀ {l : List (Int × Int)}, n ∈ l.map (·.1) ↔ dpLk n l ≠ none
  | [] => by simp [dpLk]
  | p :: l => by
    simp only [List.map_cons, List.mem_cons, dpLk]
    by_cases e : n = p.1
    · simp [e]
    · simp only [e, false_or, if_false]; exact dpLk_key
theorem dpLk_put (n v : Int) : ∀ (l : List (Int × Int)) (x : Int), dpLk x (mpPut n v l) = if x = n then some v else dpLk x l
  | [], x => by simp [mpPut, dpLk]
  | p :: l, x => by
    have ih := dpLk_put n v l x
    simp only [mpPut]
    by_cases e : p.1 = n
    · rw [if_pos e]
      simp only [dpLk]
      by_cases e2 : x = n
      · rw [if_pos e2, if_pos e2]
      · rw [if_neg e2, if_neg e2, if_neg (by rw [e]; exact e2)]
    · rw [if_neg e]
      simp only [dpLk]
      by_cases e2 : x = p.1
      · rw [if_pos e2, if_pos e2, if_neg (by rintro rfl; exact e e2.symm)]
      · rw [if_neg e2, if_neg e2]; exact ih
theorem put_keys (n v : Int) : ∀ (l : List (Int × Int)), (mpPut n v l).map (·.1) = if n ∈ l.map (·.1) then l.map (·.1) else l.map (·.1) ++ [n]
  | [] => by simp [mpPut]
  | p :: l => by
    have ih := put_keys n v l
    simp only [mpPut]
    by_cases e : p.1 = n
    · rw [if_pos e]; simp [e]
    · have e' : ¬ n = p.1 := fun h => e h.symm
      rw [if_neg e, List.map_cons, ih]
      simp only [List.map_cons, List.mem_cons, e', false_or]
      split <;> simp
theorem put_nodup {n v : Int} {l : List (Int × Int)} (h : (l.map (·.1)).Nodup) : ((mpPut n v l).map (·.1)).Nodup := by
  rw [put_keys]
  split
  · exact h
  · rename_i hn
    exact List.nodup_append.2 ⟨h, by simp, fun a ha b hb => by rw [List.mem_singleton] at hb; subst hb; exact fun e => hn (e ▸ ha)⟩
/-- A list that holds just the counts that are not 0. -/
def Good (m : List (Int × Int)) (h : Int → Int) : Prop := (m.map (·.1)).Nodup ∧ ∀ x, dpLk x m = if h x = 0 then none else some (h x)
theorem Good.get {m : List (Int × Int)} {h : Int → Int} (g : Good m h) (x : Int) : (dpLk x m).getD 0 = h x := by
  rw [g.2 x]; split
  · rename_i e; rw [e]; rfl
  · rfl
theorem Good.len {m l : List (Int × Int)} {h : Int → Int} (g : Good m h) (g2 : Good l h) : m.length = l.length := by
  have key : ∀ {a b : List (Int × Int)}, Good a h → Good b h → a.length ≤ b.length := fun {a b} ga gb => by
    have := List.Nodup.length_le_of_subset ga.1 (l₂ := b.map (·.1)) fun x hx => by
      rw [dpLk_key, gb.2 x, ← ga.2 x, ← dpLk_key]; exact hx
    simpa using this
  exact Nat.le_antisymm (key g g2) (key g2 g)
end Go.Proofs.YtdpmioiamcgfkaaDoor

/-! The law SheetTurned, by the abstract machine. -/
namespace Go.Proofs.YtdpmioiamcgfkaaDoor
open Go.RowKit

theorem kept_dpA2 (o : List (Nat × AObj)) (l : List (Int × Int)) : keptO o (.mp (dpA l)) = true := by
  simp only [keptO, List.all_eq_true, dpA, List.mem_map]
  rintro x ⟨y, -, rfl⟩
  simp [keptA, AV.keys]
section
variable {G : Nat → Option (List AV)}

end
end Go.Proofs.YtdpmioiamcgfkaaDoor

/-! How deep a drawing is: plain. -/
namespace Go.Proofs.YtdpmioiamcgfkaaDoor
open Go.RowKit

theorem tr_dep {r : List Iss} {lt : List Int} (ho : openV r = 0) (hlt : ltB r lt = true) : ∀ (k : Nat) (dep d c : Int), d ∈ nums r → ∀ b ∈ trV (tkV r lt) k dep d c, b.dep < dep + dpN r d
  | 0, _, _, _, _, b, hb => by cases hb
  | k + 1, dep, d, c, hd, b, hb => by
    have hL := open_listed ho
    rw [trV] at hb
    rcases List.mem_cons.1 hb with rfl | hb
    · have := dpN_bd ho hd
      simp only; omega
    · obtain ⟨y, hy, hb⟩ := List.mem_flatMap.1 hb
      have h1 := tr_dep ho hlt k (dep + 1) y.1 y.2 (tk_its hL hlt hd y hy) b hb
      have h2 := dpN_lt ho hd (its_C hL hlt hd hy)
      omega
end Go.Proofs.YtdpmioiamcgfkaaDoor

/-! Parts of an assembly are those of its items: plain. -/
namespace Go.Proofs.YtdpmioiamcgfkaaDoor
open Go.RowKit

/-- How often a part stands in a drawing. -/
def paZ (T : Int → Iss) : Nat → Int → Int → Int
  | 0, _, _ => 0
  | k + 1, d, n => if 1 < (T d).k then (if n = d then 1 else 0) else (T d).its.foldl (fun a y => a + y.2 * paZ T k y.1 n) 0
theorem fold_add {α : Type} (F : α → Int) : ∀ (l : List α) (a : Int), l.foldl (fun a y => a + F y) a = a + l.foldl (fun a y => a + F y) 0
  | [], a => by simp
  | y :: l, a => by
    rw [List.foldl_cons, List.foldl_cons, fold_add F l (a + F y), fold_add F l (0 + F y)]
    omega
theorem fold_nn {α : Type} {F : α → Int} : ∀ {l : List α}, (∀ y ∈ l, 0 ≤ F y) → 0 ≤ l.foldl (fun a y => a + F y) 0
  | [], _ => Int.le_refl _
  | y :: l, h => by
    rw [List.foldl_cons, fold_add]
    have h1 := h y (List.mem_cons_self)
    have h2 := fold_nn (F := F) fun z hz => h z (List.mem_cons_of_mem _ hz)
    omega
theorem fold_le {α : Type} {F : α → Int} {b : Int} : ∀ {l : List α}, (∀ y ∈ l, F y ≤ b) → l.foldl (fun a y => a + F y) 0 ≤ l.length * b
  | [], _ => by simp
  | y :: l, h => by
    rw [List.foldl_cons, fold_add]
    have h1 := h y (List.mem_cons_self)
    have h2 := fold_le (F := F) fun z hz => h z (List.mem_cons_of_mem _ hz)
    have e : ((y :: l).length : Int) * b = l.length * b + b := by rw [List.length_cons, Int.natCast_add, Int.add_mul]; simp
    omega
theorem fold_0 {α : Type} {F : α → Int} : ∀ {l : List α}, l.foldl (fun a y => a + F y) 0 ≠ 0 → ∃ y ∈ l, F y ≠ 0
  | [], h => absurd rfl h
  | x :: l, h => by
    rw [List.foldl_cons, fold_add] at h
    by_cases e : F x = 0
    · obtain ⟨y, hy, h2⟩ := fold_0 (F := F) (l := l) (by omega)
      exact ⟨y, List.mem_cons_of_mem _ hy, h2⟩
    · exact ⟨x, List.mem_cons_self, e⟩

/-- What the lists of drawings are in a register that is right. -/
structure Ok (T : Int → Iss) (D : List Int) : Prop where
  its : ∀ d ∈ D, ∀ y ∈ (T d).its, y.1 ∈ D
  len : ∀ d ∈ D, (T d).its.length ≤ 8
  pos : ∀ d ∈ D, ∀ y ∈ (T d).its, 1 ≤ y.2 ∧ y.2 ≤ 20
  one : ∀ d ∈ D, (T d).k = 1 → (T d).its ≠ []
  kin : ∀ d ∈ D, 1 ≤ (T d).k ∧ (T d).k ≤ 3
theorem paZ_bd {T : Int → Iss} {D : List Int} (h : Ok T D) : ∀ (k : Nat) (d n : Int), d ∈ D → 0 ≤ paZ T k d n ∧ paZ T k d n ≤ 160 ^ k
  | 0, _, _, _ => ⟨Int.le_refl _, by show (0 : Int) ≤ 160 ^ 0; decide⟩
  | k + 1, d, n, hd => by
    have hp : (0 : Int) < 160 ^ k := Int.pow_pos (by decide)
    have hp2 : (160 : Int) ^ (k + 1) = 160 ^ k * 160 := Int.pow_succ _ _
    rw [paZ]
    split
    · split <;> omega
    · have hy := fun y (hy : y ∈ (T d).its) => paZ_bd h k y.1 n (h.its d hd y hy)
      have hc := h.pos d hd
      refine ⟨fold_nn fun y hm => Int.mul_nonneg (by have := hc y hm; omega) (hy y hm).1, ?_⟩
      have h1 := fold_le (F := fun y : Int × Int => y.2 * paZ T k y.1 n) (b := 20 * 160 ^ k) (l := (T d).its) fun y hm => by
        have h2 := hc y hm
        have h3 := hy y hm
        exact Int.le_trans (Int.mul_le_mul_of_nonneg_right h2.2 h3.1) (Int.mul_le_mul_of_nonneg_left h3.2 (by decide))
      have h4 := h.len d hd
      have h5 : ((T d).its.length : Int) * (20 * 160 ^ k) ≤ 8 * (20 * 160 ^ k) := Int.mul_le_mul_of_nonneg_right (by omega) (by omega)
      omega
theorem wrapS {n : Int} (h0 : 0 ≤ n) (h1 : n ≤ 4611686018427387904) : IntKind.i64.wrap n = n := wrapI (by omega) (by omega)
/-- What the reference reckons is that, as it stays small. -/
theorem paV_ex {T : Int → Iss} {D : List Int} (h : Ok T D) : ∀ (k : Nat) (d m : Int) (g : Int → Int), k ≤ 6 → d ∈ D → 0 ≤ m → m ≤ 20 ^ (6 - k) → (∀ n, 0 ≤ g n ∧ g n + m * paZ T k d n ≤ 4611686018427387904) → ∀ n, paV T k d m g n = g n + m * paZ T k d n
  | 0, _, _, g, _, _, _, _, _, n => by rw [paV, paZ, Int.mul_zero, Int.add_zero]
  | k + 1, d, m, g, hk, hd, hm0, hm1, hg, n => by
    have hZ : ∀ n, paZ T (k + 1) d n = if 1 < (T d).k then (if n = d then 1 else 0) else (T d).its.foldl (fun a y => a + y.2 * paZ T k y.1 n) 0 := fun _ => rfl
    rw [paV]
    by_cases hK : 1 < (T d).k
    · rw [if_pos hK, hZ, if_pos hK]
      by_cases e : n = d
      · subst e
        have := hg n
        rw [hZ, if_pos hK, if_pos rfl] at this
        rw [if_pos rfl, if_pos rfl, addW, wrapS (by omega) (by omega)]; omega
      · rw [if_neg e, if_neg e]; omega
    · rw [if_neg hK, hZ, if_neg hK]
      simp only [hZ, if_neg hK] at hg
      have hc := h.pos d hd
      have hi := h.its d hd
      have e20 : (20 : Int) ^ (6 - k) = 20 ^ (6 - (k + 1)) * 20 := by rw [← Int.pow_succ]; congr 1; omega
      have hp20 : (20 : Int) ^ (6 - k) ≤ 64000000 := by
        have : (20 : Int) ^ (6 - k) ≤ 20 ^ 6 := by exact_mod_cast Nat.pow_le_pow_right (by decide : 0 < 20) (by omega : 6 - k ≤ 6)
        exact this
      have key : ∀ (l : List (Int × Int)) (g : Int → Int), (∀ y ∈ l, y ∈ (T d).its) → (∀ n, 0 ≤ g n ∧ g n + m * l.foldl (fun a y => a + y.2 * paZ T k y.1 n) 0 ≤ 4611686018427387904) → ∀ n, l.foldl (fun g y => paV T k y.1 (mulW m y.2) g) g n = g n + m * l.foldl (fun a y => a + y.2 * paZ T k y.1 n) 0 := by
        intro l
        induction l with
        | nil => intro g _ _ n; simp
        | cons y l ih =>
          intro g hl hg n
          have hy := hl y (List.mem_cons_self)
          have hc1 := hc y hy
          have hm2 : m * y.2 ≤ 20 ^ (6 - k) := by
            rw [e20]
            exact Int.le_trans (Int.mul_le_mul_of_nonneg_left hc1.2 hm0) (Int.mul_le_mul_of_nonneg_right hm1 (by decide))
          have hm3 : 0 ≤ m * y.2 := Int.mul_nonneg hm0 (by omega)
          have hmw : mulW m y.2 = m * y.2 := by rw [mulW, wrapS hm3 (by omega)]
          have hs : ∀ n, (y :: l).foldl (fun a y => a + y.2 * paZ T k y.1 n) 0 = y.2 * paZ T k y.1 n + l.foldl (fun a y => a + y.2 * paZ T k y.1 n) 0 := fun n => by
            rw [List.foldl_cons, fold_add (fun y : Int × Int => y.2 * paZ T k y.1 n)]; omega
          have hz := fun n => (paZ_bd h k y.1 n (hi y hy)).1
          have hnn : ∀ n, 0 ≤ l.foldl (fun a y => a + y.2 * paZ T k y.1 n) 0 := fun n => fold_nn fun z hz => by
            have hz2 := hl z (List.mem_cons_of_mem _ hz)
            exact Int.mul_nonneg (by have := hc z hz2; omega) (paZ_bd h k z.1 n (hi z hz2)).1
          have hq : ∀ n, m * (y :: l).foldl (fun a y => a + y.2 * paZ T k y.1 n) 0 = m * y.2 * paZ T k y.1 n + m * l.foldl (fun a y => a + y.2 * paZ T k y.1 n) 0 := fun n => by
            rw [hs, Int.mul_add, Int.mul_assoc]
          have hq2 : ∀ n, 0 ≤ m * l.foldl (fun a y => a + y.2 * paZ T k y.1 n) 0 := fun n => Int.mul_nonneg hm0 (hnn n)
          have hq3 : ∀ n, 0 ≤ m * y.2 * paZ T k y.1 n := fun n => Int.mul_nonneg hm3 (hz n)
          have ih1 := paV_ex h k y.1 (m * y.2) g (by omega) (hi y hy) hm3 hm2 fun n => ⟨(hg n).1, by have := (hg n).2; rw [hq] at this; have := hq2 n; omega⟩
          rw [List.foldl_cons, hmw, ih _ (fun z hz => hl z (List.mem_cons_of_mem _ hz)) fun n => by
            rw [ih1 n]
            have h1 := hg n
            rw [hq] at h1
            have := hq3 n
            omega, ih1 n, hq]
          omega
      exact key _ g (fun _ h => h) hg n
end Go.Proofs.YtdpmioiamcgfkaaDoor

/-! Parts of an assembly are those of its items: plain, the counting. -/
namespace Go.Proofs.YtdpmioiamcgfkaaDoor
open Go.RowKit

theorem ok_of {r : List Iss} {lt : List Int} (ho : openV r = 0) (hlt : ltB r lt = true) : Ok (tkV r lt) (nums r) := by
  have hL := open_listed ho
  have hi := fun d (hd : d ∈ nums r) => listed_iss hL (tk_mem hL hlt hd).1
  refine ⟨fun d hd => tk_its hL hlt hd, tk_8 ho hlt, fun d hd y hy => ?_, fun d hd h1 h2 => ?_, fun d hd => ?_⟩
  · obtain ⟨j, hj, rfl⟩ := List.getElem_of_mem hy
    have := its_at (hi d hd) hj
    exact ⟨this.2.1, this.2.2.1⟩
  · have h3 := hi d hd
    simp only [issB, headB, Bool.and_eq_true, inR, decide_eq_true_eq, h1, if_true] at h3
    rw [h2] at h3
    have := h3.1.1.2.1
    simp at this
  · have := iss_kind (hi d hd)
    exact ⟨this.1, this.2.1⟩
section
variable {r : List Iss} {lt : List Int}
theorem paZ_in (ho : openV r = 0) (hlt : ltB r lt = true) : ∀ (k : Nat) (d n : Int), d ∈ nums r → paZ (tkV r lt) k d n ≠ 0 → n ∈ nums r ∧ 1 < (tkV r lt n).k
  | 0, _, _, _, h => absurd rfl h
  | k + 1, d, n, hd, h => by
    rw [paZ] at h
    split at h
    · split at h
      · rename_i h1 h2; subst h2; exact ⟨hd, h1⟩
      · exact absurd rfl h
    · obtain ⟨y, hy, h1⟩ := fold_0 (F := fun y : Int × Int => y.2 * paZ (tkV r lt) k y.1 n) h
      exact paZ_in ho hlt k y.1 n (tk_its (open_listed ho) hlt hd y hy) fun e => h1 (by rw [e, Int.mul_zero])
/-- What Explode tells, by the plain count. -/
def pzN (r : List Iss) (lt : List Int) (d : Int) : List (Int × Int) := ptN (nums r) (paZ (tkV r lt) 6 d) (nums r).length
theorem exV_pz (ho : openV r = 0) (hlt : ltB r lt = true) {d : Int} (hd : d ∈ nums r) : exV r lt d = (pzN r lt d, 0) := by
  have hO := ok_of ho hlt
  have e : (paV (tkV r lt) 6 d 1 fun _ => 0) = paZ (tkV r lt) 6 d := by
    funext n
    have := paV_ex hO 6 d 1 (fun _ => 0) (Nat.le_refl _) hd (by decide) (by decide) (fun n => ⟨Int.le_refl _, by
      have := (paZ_bd hO 6 d n hd).2
      have e6 : (160 : Int) ^ 6 = 16777216000000 := by decide
      rw [e6] at this
      omega⟩) n
    rw [this]; omega
  rw [exV, if_pos (ask_ok ho hlt hd), e]; rfl
theorem pt_lk (g : Int → Int) (n : Int) : ∀ l : List Int, dpLk n (l.map fun n => (n, g n)) = if n ∈ l then some (g n) else none
  | [] => by simp [dpLk]
  | x :: l => by
    simp only [List.map_cons, dpLk, List.mem_cons, pt_lk g n l]
    by_cases e : n = x
    · simp [e]
    · simp [e]
theorem nums_nd (hL : listedB r = true) : (nums r).Nodup := ((numsN_spec (ord_of hL) r.length (Nat.le_refl _)).1).imp fun h => by omega
theorem good_pt (hL : listedB r = true) {g : Int → Int} (h0 : ∀ n, 0 ≤ g n) (h1 : ∀ n, n ∉ nums r → g n = 0) : Good (ptN (nums r) g (nums r).length) g := by
  rw [ptN, List.take_length]
  refine ⟨?_, fun x => ?_⟩
  · rw [List.map_map]
    have e : ((fun x : Int × Int => x.1) ∘ fun n => (n, g n)) = id := rfl
    rw [e, List.map_id]
    exact (nums_nd hL).filter _
  · rw [pt_lk]
    by_cases e : g x = 0
    · rw [if_pos e, if_neg]
      intro hm
      have := (List.mem_filter.1 hm).2
      simp [e] at this
    · have hx : x ∈ nums r := Classical.byContradiction fun hn => e (h1 x hn)
      rw [if_neg e, if_pos]
      have := h0 x
      exact List.mem_filter.2 ⟨hx, decide_eq_true (by omega)⟩
theorem good_pz (ho : openV r = 0) (hlt : ltB r lt = true) {d : Int} (hd : d ∈ nums r) : Good (pzN r lt d) (paZ (tkV r lt) 6 d) :=
  good_pt (open_listed ho) (fun n => (paZ_bd (ok_of ho hlt) 6 d n hd).1) fun n hn => Classical.byContradiction fun h => hn (paZ_in ho hlt 6 d n hd h).1
theorem pz_pos {d : Int} : ∀ z ∈ pzN r lt d, 0 < z.2 ∧ z.2 = paZ (tkV r lt) 6 d z.1 := fun z hz => by
  rw [pzN, ptN, List.take_length] at hz
  obtain ⟨n, hn, rfl⟩ := List.mem_map.1 hz
  exact ⟨of_decide_eq_true (List.mem_filter.1 hn).2, rfl⟩
end
theorem Good.put {m : List (Int × Int)} {h : Int → Int} (gd : Good m h) {n v : Int} (hv : v ≠ 0) : Good (mpPut n v m) (fun x => if x = n then v else h x) := by
  refine ⟨put_nodup gd.1, fun x => ?_⟩
  rw [dpLk_put]
  by_cases e2 : x = n
  · subst e2; simp [hv]
  · rw [if_neg e2]; have := gd.2 x; simp [e2, this]
end Go.Proofs.YtdpmioiamcgfkaaDoor

/-! The law SheetItems, by the abstract machine. -/
namespace Go.Proofs.YtdpmioiamcgfkaaDoor
open Go.RowKit

section
variable {G : Nat → Option (List AV)}

end
end Go.Proofs.YtdpmioiamcgfkaaDoor

/-! What is above a drawing, and what is in trees: plain. -/
namespace Go.Proofs.YtdpmioiamcgfkaaDoor
open Go.RowKit

theorem tr_cons (T : Int → Iss) (k : Nat) (dep x c : Int) : trV T (k + 1) dep x c = ⟨dep, x, (T x).l, c⟩ :: (T x).its.flatMap fun y => trV T k (dep + 1) y.1 y.2 := rfl
end Go.Proofs.YtdpmioiamcgfkaaDoor

/-! Parts are what the tree's ends are: plain. -/
namespace Go.Proofs.YtdpmioiamcgfkaaDoor
open Go.RowKit

section
variable {T : Int → Iss}
theorem tr_ge : ∀ (k : Nat) (dep d c : Int), ∀ b ∈ trV T k dep d c, dep ≤ b.dep
  | 0, _, _, _, b, hb => by cases hb
  | k + 1, dep, d, c, b, hb => by
    rw [tr_cons] at hb
    rcases List.mem_cons.1 hb with rfl | hb
    · exact Int.le_refl _
    · obtain ⟨y, hy, hb⟩ := List.mem_flatMap.1 hb
      have := tr_ge k (dep + 1) y.1 y.2 b hb
      omega
/-- The trees of items, one behind the other. -/
def fmV (T : Int → Iss) (k : Nat) (dep : Int) (its : List (Int × Int)) : List Brn := its.flatMap fun y => trV T k dep y.1 y.2
theorem fmV_cons (k : Nat) (dep : Int) (y : Int × Int) (its : List (Int × Int)) : fmV T k dep (y :: its) = trV T k dep y.1 y.2 ++ fmV T k dep its := rfl
theorem fm_ge {k : Nat} {dep : Int} {its : List (Int × Int)} : ∀ b ∈ fmV T k dep its, dep ≤ b.dep := fun b hb => by
  obtain ⟨y, hy, hb⟩ := List.mem_flatMap.1 hb
  exact tr_ge k dep y.1 y.2 b hb
theorem fm_head (k : Nat) (dep : Int) : ∀ its : List (Int × Int), fmV T k dep its = [] ∨ ∃ z tl, fmV T k dep its = z :: tl ∧ z.dep = dep
  | [] => .inl rfl
  | y :: its => by
    match k with
    | 0 => rcases fm_head 0 dep its with h | h
           · exact .inl (by rw [fmV_cons, h]; rfl)
           · exact .inr (by rw [fmV_cons]; exact h)
    | k + 1 => exact .inr ⟨_, _, by rw [fmV_cons, tr_cons]; rfl, rfl⟩
/-- The roots among branches. -/
def rtF (D : Int) (l : List Brn) : List (Int × Int) := (l.filter fun z => decide (z.dep = D)).map fun z => (z.d, z.c)
theorem rt_none {D : Int} {l : List Brn} (h : ∀ z ∈ l, D < z.dep) : rtF D l = [] := by
  rw [rtF, List.filter_eq_nil_iff.2 fun z hz => by have := h z hz; simp; omega]; rfl
theorem rt_fm {k : Nat} {dep : Int} : ∀ {its : List (Int × Int)}, (its = [] ∨ 0 < k) → rtF dep (fmV T k dep its) = its
  | [], _ => rfl
  | y :: its, h => by
    rcases h with h | h
    · cases h
    obtain ⟨j, rfl⟩ : ∃ j, k = j + 1 := ⟨k - 1, by omega⟩
    have ih := rt_fm (k := j + 1) (dep := dep) (its := its) (.inr h)
    have h0 : rtF dep (fmV T j (dep + 1) (T y.1).its) = [] := rt_none fun z hz => by have := fm_ge z hz; omega
    rw [fmV_cons, tr_cons]
    rw [show ((T y.1).its.flatMap fun y => trV T j (dep + 1) y.1 y.2) = fmV T j (dep + 1) (T y.1).its from rfl]
    unfold rtF at ih h0 ⊢
    rw [List.filter_append, List.filter_cons, if_pos (by simp), List.map_append, List.map_cons, h0, ih]
    rfl
end

section
variable {r : List Iss} {lt : List Int}
/-- What follows a branch: the trees of its items, and then what is no deeper. -/
structure TrAt (r : List Iss) (lt : List Int) (l : List Brn) (i : Nat) (b : Brn) : Prop where
  ex : ∃ j pre post, l = pre ++ (b :: (fmV (tkV r lt) j (b.dep + 1) (tkV r lt b.d).its ++ post)) ∧ pre.length = i ∧ dpN r b.d ≤ j + 1 ∧ (post = [] ∨ ∃ z tl, post = z :: tl ∧ z.dep ≤ b.dep)
  num : b.d ∈ nums r
  ltr : b.l = (tkV r lt b.d).l
theorem tr_split (ho : openV r = 0) (hlt : ltB r lt = true) : ∀ (k : Nat) (dep d c : Int), d ∈ nums r → dpN r d ≤ k → ∀ (i : Nat) (b : Brn), (trV (tkV r lt) k dep d c)[i]? = some b → TrAt r lt (trV (tkV r lt) k dep d c) i b
  | 0, _, _, _, hd, h, _, _, _ => (dp_pos ho hd h).elim
  | k + 1, dep, d, c, hd, h, i, b, hb => by
    have aux : ∀ (its : List (Int × Int)), (∀ y ∈ its, y.1 ∈ nums r ∧ dpN r y.1 ≤ k) → ∀ (i : Nat) (b : Brn), (fmV (tkV r lt) k (dep + 1) its)[i]? = some b → TrAt r lt (fmV (tkV r lt) k (dep + 1) its) i b := by
      intro its
      induction its with
      | nil => intro _ i b hb; simp [fmV] at hb
      | cons y its ih =>
        intro hy i b hb
        obtain ⟨hy1, hy2⟩ := hy y (List.mem_cons_self)
        rw [fmV_cons] at hb ⊢
        rcases Nat.lt_or_ge i (trV (tkV r lt) k (dep + 1) y.1 y.2).length with hi | hi
        · rw [List.getElem?_append_left hi] at hb
          obtain ⟨⟨j, pre, post, e1, e2, e3, e4⟩, e5, e6⟩ := tr_split ho hlt k (dep + 1) y.1 y.2 hy1 hy2 i b hb
          refine ⟨⟨j, pre, post ++ fmV (tkV r lt) k (dep + 1) its, ?_, e2, e3, ?_⟩, e5, e6⟩
          · conv => lhs; rw [e1]
            simp only [List.append_assoc, List.cons_append]
          · rcases e4 with rfl | ⟨z, tl, rfl, hz⟩
            · rw [List.nil_append]
              rcases fm_head (T := tkV r lt) k (dep + 1) its with h | ⟨z, tl, h, hz⟩
              · exact .inl h
              · have := tr_ge k (dep + 1) y.1 y.2 b (List.mem_of_getElem? hb)
                exact .inr ⟨z, tl, h, by omega⟩
            · exact .inr ⟨z, _, rfl, hz⟩
        · rw [List.getElem?_append_right hi] at hb
          obtain ⟨⟨j, pre, post, e1, e2, e3, e4⟩, e5, e6⟩ := ih (fun z hz => hy z (List.mem_cons_of_mem _ hz)) _ b hb
          refine ⟨⟨j, trV (tkV r lt) k (dep + 1) y.1 y.2 ++ pre, post, ?_, by rw [List.length_append, e2]; omega, e3, e4⟩, e5, e6⟩
          conv => lhs; rw [e1]
          simp only [List.append_assoc]
    rw [tr_cons] at hb ⊢
    match i with
    | 0 =>
      obtain rfl : (⟨dep, d, (tkV r lt d).l, c⟩ : Brn) = b := by simpa using hb
      exact ⟨⟨k, [], [], by simp [fmV], rfl, h, .inl rfl⟩, hd, rfl⟩
    | i + 1 =>
      rw [List.getElem?_cons_succ] at hb
      obtain ⟨⟨j, pre, post, e1, e2, e3, e4⟩, e5, e6⟩ := aux _ (fun y hy => dp_its ho hlt hd h hy) i b hb
      refine ⟨⟨j, ⟨dep, d, (tkV r lt d).l, c⟩ :: pre, post, ?_, by rw [List.length_cons, e2], e3, e4⟩, e5, e6⟩
      rw [show ((tkV r lt d).its.flatMap fun y => trV (tkV r lt) k (dep + 1) y.1 y.2) = fmV (tkV r lt) k (dep + 1) (tkV r lt d).its from rfl]
      conv => lhs; rw [e1]
      rfl
theorem tr_c (ho : openV r = 0) (hlt : ltB r lt = true) : ∀ (k : Nat) (dep d c : Int), d ∈ nums r → 1 ≤ c ∧ c ≤ 20 → ∀ b ∈ trV (tkV r lt) k dep d c, 1 ≤ b.c ∧ b.c ≤ 20
  | 0, _, _, _, _, _, b, hb => by cases hb
  | k + 1, dep, d, c, hd, hc, b, hb => by
    rw [tr_cons] at hb
    rcases List.mem_cons.1 hb with rfl | hb
    · exact hc
    · obtain ⟨y, hy, hb⟩ := List.mem_flatMap.1 hb
      exact tr_c ho hlt k (dep + 1) y.1 y.2 ((ok_of ho hlt).its d hd y hy) ((ok_of ho hlt).pos d hd y hy) b hb

/-- All that the law asks of a tree's list at an index. -/
structure EndAt (r : List Iss) (lt : List Int) (t : List Brn) (i : Nat) (b : Brn) : Prop where
  num : b.d ∈ nums r
  ltr : b.l = (tkV r lt b.d).l
  dep0 : 0 ≤ b.dep
  dep6 : b.dep < 6
  c1 : 1 ≤ b.c
  c20 : b.c ≤ 20
  up : 0 < i → 1 ≤ b.dep ∧ b.dep ≤ (t.getD (i - 1) default).dep + 1
  seg : ∃ n, i + 1 + n ≤ t.length ∧ (∀ z ∈ (t.drop (i + 1)).take n, b.dep < z.dep) ∧ rtF (b.dep + 1) ((t.drop (i + 1)).take n) = (tkV r lt b.d).its ∧ (∀ z, t[i + 1 + n]? = some z → z.dep ≤ b.dep)
theorem end_at (ho : openV r = 0) (hlt : ltB r lt = true) {d : Int} (hd : d ∈ nums r) {i : Nat} {b : Brn} (hb : (trV (tkV r lt) 6 0 d 1)[i]? = some b) : EndAt r lt (trV (tkV r lt) 6 0 d 1) i b := by
  have h6 := (dpN_bd ho hd).2
  have hm := List.mem_of_getElem? hb
  have hdep := tr_dep ho hlt 6 0 d 1 hd b hm
  have hge := tr_ge 6 0 d 1 b hm
  have hc := tr_c ho hlt 6 0 d 1 hd (by decide) b hm
  obtain ⟨⟨j, pre, post, e1, e2, e3, e4⟩, e5, e6⟩ := tr_split ho hlt 6 0 d 1 hd h6 i b hb
  refine ⟨e5, e6, hge, by omega, hc.1, hc.2, fun hi => ?_, (fmV (tkV r lt) j (b.dep + 1) (tkV r lt b.d).its).length, ?_⟩
  · obtain ⟨i, rfl⟩ : ∃ k, i = k + 1 := ⟨i - 1, by omega⟩
    rw [Nat.add_sub_cancel]
    constructor
    · have hb2 := hb
      rw [tr_cons, List.getElem?_cons_succ] at hb2
      have := fm_ge (T := tkV r lt) (k := 5) (dep := 0 + 1) (its := (tkV r lt d).its) b (List.mem_of_getElem? hb2)
      omega
    · have hil : i < (trV (tkV r lt) 6 0 d 1).length := by
        have := (List.getElem?_eq_some_iff.1 hb).1
        omega
      obtain ⟨a, ha⟩ : ∃ a, (trV (tkV r lt) 6 0 d 1)[i]? = some a := ⟨_, List.getElem?_eq_getElem hil⟩
      have eg : (trV (tkV r lt) 6 0 d 1).getD i default = a := by rw [List.getD_eq_getElem?_getD, ha]; rfl
      rw [eg]
      obtain ⟨⟨j2, pre2, post2, f1, f2, f3, f4⟩, f5, f6⟩ := tr_split ho hlt 6 0 d 1 hd h6 i a ha
      rw [f1, List.getElem?_append_right (by omega), f2, show i + 1 - i = 0 + 1 by omega, List.getElem?_cons_succ] at hb
      rcases fm_head (T := tkV r lt) j2 (a.dep + 1) (tkV r lt a.d).its with h | ⟨z, tl, h, hz⟩
      · rw [h, List.nil_append] at hb
        rcases f4 with rfl | ⟨z, tl, rfl, hz⟩
        · simp at hb
        · obtain rfl : z = b := by simpa using hb
          omega
      · rw [h] at hb
        obtain rfl : z = b := by simpa using hb
        omega
  · generalize trV (tkV r lt) 6 0 d 1 = t at *
    have ed : t.drop (i + 1) = fmV (tkV r lt) j (b.dep + 1) (tkV r lt b.d).its ++ post := by
      rw [e1, ← e2, List.drop_append, List.drop_of_length_le (by omega), List.nil_append, show pre.length + 1 - pre.length = 1 by omega]
      rfl
    rw [ed, List.take_left' rfl]
    refine ⟨?_, fun z hz => by have := fm_ge z hz; omega, rt_fm ?_, fun z hz => ?_⟩
    · rw [e1, List.length_append, List.length_cons, List.length_append, e2]; omega
    · by_cases h0 : (tkV r lt b.d).its = []
      · exact .inl h0
      · refine .inr ?_
        obtain ⟨y, hy⟩ := List.exists_mem_of_ne_nil _ h0
        obtain ⟨g1, g2⟩ := dp_its ho hlt e5 e3 hy
        have := (dpN_bd ho g1).1
        omega
    · rw [← List.getElem?_drop, ed, List.getElem?_append_right (Nat.le_refl _), Nat.sub_self] at hz
      rcases e4 with rfl | ⟨w, tl, rfl, hw⟩
      · simp at hz
      · obtain rfl : w = z := by simpa using hz
        exact hw
end

/-! ### Counts on the way. -/
def wyS (T : Int → Iss) (s : (Int → Int) × List (Int × Int)) (b : Brn) : (Int → Int) × List (Int × Int) :=
  (fun j => if j = b.dep then (if 0 < b.dep then mulW b.c (s.1 (b.dep - 1)) else b.c) else s.1 j,
   if (T b.d).its = [] then mpPut b.d (addW ((dpLk b.d s.2).getD 0) (if 0 < b.dep then mulW b.c (s.1 (b.dep - 1)) else b.c)) s.2 else s.2)
theorem pow20 (k : Nat) (h : k ≤ 7) : (20 : Int) ^ k ≤ 1280000000 := by
  have : (20 : Int) ^ k ≤ 20 ^ 7 := by exact_mod_cast Nat.pow_le_pow_right (by decide : 0 < 20) h
  exact this
theorem wy_block {r : List Iss} {lt : List Int} (ho : openV r = 0) (hlt : ltB r lt = true) : ∀ (k : Nat) (dep d c : Int) (w : Int → Int) (m : List (Int × Int)) (h : Int → Int) (v : Int), k ≤ 6 → d ∈ nums r → dpN r d ≤ k → 0 ≤ dep →
    v = (if 0 < dep then c * w (dep - 1) else c) → 1 ≤ v → v ≤ 20 ^ (7 - k) → Good m h → (∀ x, 0 ≤ h x ∧ h x + v * paZ (tkV r lt) k d x ≤ 4611686018427387904) →
    (∀ j, j < dep → ((trV (tkV r lt) k dep d c).foldl (wyS (tkV r lt)) (w, m)).1 j = w j) ∧ Good ((trV (tkV r lt) k dep d c).foldl (wyS (tkV r lt)) (w, m)).2 (fun x => h x + v * paZ (tkV r lt) k d x)
  | 0, _, d, _, _, _, _, _, _, hd, h, _, _, _, _, _, _ => (dp_pos ho hd h).elim
  | k + 1, dep, d, c, w, m, h, v, hk, hd, hdk, h0, hv, hv1, hv2, hG, hb => by
    have hO := ok_of ho hlt
    have hL := open_listed ho
    have p20 := pow20 (7 - (k + 1)) (by omega)
    have ev : (if 0 < dep then mulW c (w (dep - 1)) else c) = v := by
      rw [hv]; split
      · rename_i hp
        rw [hv, if_pos hp] at hv1 hv2
        rw [mulW, wrapS (by omega) (by omega)]
      · rfl
    have hkk := iss_kind (listed_iss hL (tk_mem hL hlt hd).1)
    rw [tr_cons, List.foldl_cons]
    by_cases hK : (tkV r lt d).k = 1
    · have hne := hO.one d hd hK
      have hZ : ∀ x, paZ (tkV r lt) (k + 1) d x = (tkV r lt d).its.foldl (fun a y => a + y.2 * paZ (tkV r lt) k y.1 x) 0 := fun x => by rw [paZ, if_neg (by omega)]
      have es : wyS (tkV r lt) (w, m) ⟨dep, d, (tkV r lt d).l, c⟩ = (fun j => if j = dep then v else w j, m) := by
        simp only [wyS, if_neg hne, ev]
      rw [es]
      have e20 : (20 : Int) ^ (7 - k) = 20 * 20 ^ (7 - (k + 1)) := by rw [Int.mul_comm, ← Int.pow_succ]; congr 1; omega
      have key : ∀ (l : List (Int × Int)) (w1 : Int → Int) (m1 : List (Int × Int)) (h1 : Int → Int), (∀ y ∈ l, y ∈ (tkV r lt d).its) → w1 dep = v → Good m1 h1 → (∀ x, 0 ≤ h1 x ∧ h1 x + v * l.foldl (fun a y => a + y.2 * paZ (tkV r lt) k y.1 x) 0 ≤ 4611686018427387904) →
          (∀ j, j < dep + 1 → ((l.flatMap fun y => trV (tkV r lt) k (dep + 1) y.1 y.2).foldl (wyS (tkV r lt)) (w1, m1)).1 j = w1 j) ∧ Good ((l.flatMap fun y => trV (tkV r lt) k (dep + 1) y.1 y.2).foldl (wyS (tkV r lt)) (w1, m1)).2 (fun x => h1 x + v * l.foldl (fun a y => a + y.2 * paZ (tkV r lt) k y.1 x) 0) := by
        intro l
        induction l with
        | nil => intro w1 m1 h1 _ _ hg _; exact ⟨fun _ _ => rfl, by simpa using hg⟩
        | cons y l ih =>
          intro w1 m1 h1 hl hw hg hb1
          have hy := hl y (List.mem_cons_self)
          have hc1 := hO.pos d hd y hy
          obtain ⟨hyn, hyd⟩ := dp_its ho hlt hd hdk hy
          have hs : ∀ x, (y :: l).foldl (fun a y => a + y.2 * paZ (tkV r lt) k y.1 x) 0 = y.2 * paZ (tkV r lt) k y.1 x + l.foldl (fun a y => a + y.2 * paZ (tkV r lt) k y.1 x) 0 := fun x => by
            rw [List.foldl_cons, fold_add (fun y : Int × Int => y.2 * paZ (tkV r lt) k y.1 x)]; omega
          have hnn : ∀ x, 0 ≤ l.foldl (fun a y => a + y.2 * paZ (tkV r lt) k y.1 x) 0 := fun x => fold_nn fun z hz => by
            have hz2 := hl z (List.mem_cons_of_mem _ hz)
            exact Int.mul_nonneg (by have := hO.pos d hd z hz2; omega) (paZ_bd hO k z.1 x (hO.its d hd z hz2)).1
          have hzz := fun x => (paZ_bd hO k y.1 x hyn).1
          have hq : ∀ x, v * (y :: l).foldl (fun a y => a + y.2 * paZ (tkV r lt) k y.1 x) 0 = y.2 * v * paZ (tkV r lt) k y.1 x + v * l.foldl (fun a y => a + y.2 * paZ (tkV r lt) k y.1 x) 0 := fun x => by
            rw [hs, Int.mul_add, Int.mul_comm y.2 v, Int.mul_assoc]
          have hv3 : y.2 * v ≤ 20 ^ (7 - k) := by
            rw [e20]
            exact Int.le_trans (Int.mul_le_mul_of_nonneg_right hc1.2 (by omega)) (Int.mul_le_mul_of_nonneg_left hv2 (by decide))
          have hv4 : 1 ≤ y.2 * v := by have := Int.mul_pos (show 0 < y.2 by omega) (show 0 < v by omega); omega
          have hn1 : ∀ x, 0 ≤ v * l.foldl (fun a y => a + y.2 * paZ (tkV r lt) k y.1 x) 0 := fun x => Int.mul_nonneg (by omega) (hnn x)
          have hn2 : ∀ x, 0 ≤ y.2 * v * paZ (tkV r lt) k y.1 x := fun x => Int.mul_nonneg (by omega) (hzz x)
          obtain ⟨i1, i2⟩ := wy_block ho hlt k (dep + 1) y.1 y.2 w1 m1 h1 (y.2 * v) (by omega) hyn hyd (by omega) (by rw [if_pos (by omega), show dep + 1 - 1 = dep by omega, hw]) hv4 hv3 hg fun x => ⟨(hb1 x).1, by
            have a1 := (hb1 x).2
            rw [hq] at a1
            have a2 := hn1 x
            omega⟩
          rw [List.flatMap_cons, List.foldl_append]
          generalize (trV (tkV r lt) k (dep + 1) y.1 y.2).foldl (wyS (tkV r lt)) (w1, m1) = s1 at *
          obtain ⟨w2, m2⟩ := s1
          simp only at i1 i2
          obtain ⟨k1, k2⟩ := ih w2 m2 _ (fun z hz => hl z (List.mem_cons_of_mem _ hz)) (by rw [i1 dep (by omega), hw]) i2 fun x => ⟨by have a1 := (hb1 x).1; have a2 := hn2 x; omega, by
            have a1 := (hb1 x).2
            rw [hq] at a1
            omega⟩
          refine ⟨fun j hj => by rw [k1 j hj, i1 j hj], ?_⟩
          have ef : (fun x => h1 x + v * (y :: l).foldl (fun a y => a + y.2 * paZ (tkV r lt) k y.1 x) 0) = fun x => h1 x + y.2 * v * paZ (tkV r lt) k y.1 x + v * l.foldl (fun a y => a + y.2 * paZ (tkV r lt) k y.1 x) 0 := by
            funext x; rw [hq]; omega
          rw [ef]; exact k2
      obtain ⟨k1, k2⟩ := key (tkV r lt d).its (fun j => if j = dep then v else w j) m h (fun _ hy => hy) (if_pos rfl) hG fun x => by rw [← hZ]; exact hb x
      refine ⟨fun j hj => by rw [k1 j (by omega), if_neg (by omega)], ?_⟩
      have ef : (fun x => h x + v * paZ (tkV r lt) (k + 1) d x) = fun x => h x + v * (tkV r lt d).its.foldl (fun a y => a + y.2 * paZ (tkV r lt) k y.1 x) 0 := by funext x; rw [hZ]
      rw [ef]; exact k2
    · have hit := hkk.2.2.2 hK
      have hZ : ∀ x, paZ (tkV r lt) (k + 1) d x = if x = d then 1 else 0 := fun x => by rw [paZ, if_pos (by omega)]
      have hbd := hb d
      rw [hZ, if_pos rfl, Int.mul_one] at hbd
      have es : wyS (tkV r lt) (w, m) ⟨dep, d, (tkV r lt d).l, c⟩ = (fun j => if j = dep then v else w j, mpPut d (h d + v) m) := by
        simp only [wyS, hit, if_true, ev]
        rw [hG.get, addW, wrapS (by omega) (by omega)]
      rw [es, hit]
      refine ⟨fun j hj => by show (if j = dep then v else w j) = w j; rw [if_neg (by omega)], ?_⟩
      have gp := hG.put (n := d) (v := h d + v) (by omega)
      have ef : (fun x => h x + v * paZ (tkV r lt) (k + 1) d x) = fun x => if x = d then h d + v else h x := by
        funext x
        rw [hZ]
        by_cases e : x = d
        · subst e; rw [if_pos rfl, if_pos rfl, Int.mul_one]
        · rw [if_neg e, if_neg e, Int.mul_zero, Int.add_zero]
      rw [ef]; exact gp
/-- The state behind so many branches. -/
def wyV (T : Int → Iss) (t : List Brn) (i : Nat) : (Int → Int) × List (Int × Int) := (t.take i).foldl (wyS T) (fun _ => 0, [])
theorem wyV_succ {T : Int → Iss} {t : List Brn} {i : Nat} (h : i < t.length) : wyV T t (i + 1) = wyS T (wyV T t i) t[i] := fold_take (fun s b => wyS T s b) _ _ _ h
theorem wyV_end {r : List Iss} {lt : List Int} (ho : openV r = 0) (hlt : ltB r lt = true) {d : Int} (hd : d ∈ nums r) : Good (wyV (tkV r lt) (trV (tkV r lt) 6 0 d 1) (trV (tkV r lt) 6 0 d 1).length).2 (paZ (tkV r lt) 6 d) := by
  have hO := ok_of ho hlt
  have := (wy_block ho hlt 6 0 d 1 (fun _ => 0) [] (fun _ => 0) 1 (Nat.le_refl _) hd (dpN_bd ho hd).2 (Int.le_refl _) rfl (Int.le_refl _) (by decide) ⟨by simp, fun x => by simp [dpLk]⟩ fun x => ⟨Int.le_refl _, by
    have h1 := (paZ_bd hO 6 d x hd).2
    have e6 : (160 : Int) ^ 6 = 16777216000000 := by decide
    rw [e6] at h1
    omega⟩).2
  have ef : (fun x => (0 : Int) + 1 * paZ (tkV r lt) 6 d x) = paZ (tkV r lt) 6 d := by funext x; omega
  rw [ef] at this
  rw [wyV, List.take_length]; exact this
/-- The array of the way. -/
def wyC (w : Int → Int) : List AV := [.int .i64 (w 0), .int .i64 (w 1), .int .i64 (w 2), .int .i64 (w 3), .int .i64 (w 4), .int .i64 (w 5)]
theorem wyC_at (w : Int → Int) : ∀ {n : Nat}, n < 6 → (wyC w)[n]? = some (.int .i64 (w n))
  | 0, _ => rfl
  | 1, _ => rfl
  | 2, _ => rfl
  | 3, _ => rfl
  | 4, _ => rfl
  | 5, _ => rfl
  | n + 6, h => by omega
theorem wyC_put (w : Int → Int) (v : Int) : ∀ {n : Nat}, n < 6 → splice (wyC w) n [.int .i64 v] = wyC fun j => if j = (n : Int) then v else w j
  | 0, _ => rfl
  | 1, _ => rfl
  | 2, _ => rfl
  | 3, _ => rfl
  | 4, _ => rfl
  | 5, _ => rfl
  | n + 6, h => by omega
end Go.Proofs.YtdpmioiamcgfkaaDoor

/-! The abstract machine's code of functions of the program, as a program of ours printed it; that it is theirs is proved beside each. -/
namespace Go.Proofs.YtdpmioiamcgfkaaDoor
open Go.RowKit

end Go.Proofs.YtdpmioiamcgfkaaDoor

/-! Ranges of issues change places. -/
namespace Go.Proofs.YtdpmioiamcgfkaaDoor
open Go.RowKit

section
variable {G : Nat → Option (List AV)}

end
end Go.Proofs.YtdpmioiamcgfkaaDoor

/-! Two neighbouring ranges of issues change places. -/
namespace Go.Proofs.YtdpmioiamcgfkaaDoor
open Go.RowKit

section
variable {G : Nat → Option (List AV)}

end
end Go.Proofs.YtdpmioiamcgfkaaDoor

/-! Two ranges in order put together: plain. -/
namespace Go.Proofs.YtdpmioiamcgfkaaDoor
open Go.RowKit

end Go.Proofs.YtdpmioiamcgfkaaDoor

/-! One issue ahead of a range in order is put in. -/
namespace Go.Proofs.YtdpmioiamcgfkaaDoor
open Go.RowKit

end Go.Proofs.YtdpmioiamcgfkaaDoor

/-! symMerge where one of the ranges is a single issue. -/
namespace Go.Proofs.YtdpmioiamcgfkaaDoor
open Go.RowKit

section
variable {G : Nat → Option (List AV)}

end
end Go.Proofs.YtdpmioiamcgfkaaDoor

/-! symMerge where the second range is a single issue. -/
namespace Go.Proofs.YtdpmioiamcgfkaaDoor
open Go.RowKit

section
variable {G : Nat → Option (List AV)}

end
end Go.Proofs.YtdpmioiamcgfkaaDoor

/-! symMerge: what a step of it does, plain. -/
namespace Go.Proofs.YtdpmioiamcgfkaaDoor
open Go.RowKit

end Go.Proofs.YtdpmioiamcgfkaaDoor

/-! What sorting ranges keeps. -/
namespace Go.Proofs.YtdpmioiamcgfkaaDoor
open Go.RowKit

end Go.Proofs.YtdpmioiamcgfkaaDoor

/-! symMerge, by the abstract machine. -/
namespace Go.Proofs.YtdpmioiamcgfkaaDoor
open Go.RowKit
theorem AR_cut {P : Program} {R : Run} {a b : RCode} {st S : St} {Φ : Exit → St → Prop} (h : AR P R a st fun e s => e = .normal ∧ Weak s S) (hb : AR P R b S Φ) : AR P R (.seq a b) st Φ :=
  AR_seq (AR_mono h fun e s hs => by obtain ⟨rfl, hw⟩ := hs; exact AR_weak hw hb)
section
variable {G : Nat → Option (List AV)}

end
end Go.Proofs.YtdpmioiamcgfkaaDoor

/-! The law SheetEnds, by the abstract machine. -/
namespace Go.Proofs.YtdpmioiamcgfkaaDoor
open Go.RowKit

def enC (r : List Iss) (lt : List Int) (D : Int) (ps : List (Int × Int)) (t : List Brn) : List (Nat × AV) := [(3, .ptr 3 0), (7, .bool true), (8, .vsl (lt.map ia)), (9, .int .i64 D), (10, .vsl (ps.map ita)), (12, .vsl (t.map bra)), (14, .vsl ((nums r).map ia)), (15, .mp 71), (16, .ptr 16 0)]
def enB (r : List Iss) (s : (Int → Int) × List (Int × Int)) : List (Nat × AObj) := [(3, .box [.vsl (r.map isa)]), (16, .box (wyC s.1)), (71, .mp (dpA s.2))]
def enO (r : List Iss) (lt : List Int) (D : Int) (ps : List (Int × Int)) (t : List Brn) (i : Nat) : St := ⟨(74, .int .i64 i) :: (73, .int .i64 t.length) :: (72, .vsl (t.map bra)) :: enC r lt D ps t, enB r (wyV (tkV r lt) t i)⟩
/-- How many items were met. -/
def blN (D : Int) (q : List Brn) (j : Nat) : Nat := (rtF (D + 1) (q.take j)).length
theorem blN_succ {D : Int} {q : List Brn} {j : Nat} (h : j < q.length) : blN D q (j + 1) = if q[j].dep = D + 1 then blN D q j + 1 else blN D q j := by
  unfold blN rtF
  rw [List.take_succ_eq_append_getElem h, List.filter_append, List.map_append, List.length_append]
  split
  · rename_i e; rw [List.filter_cons_of_pos (by simpa using e)]; simp
  · rename_i e; rw [List.filter_cons_of_neg (by simpa using e)]; simp
theorem bl_at {D : Int} {q : List Brn} {j n : Nat} {its : List (Int × Int)} (hq : rtF (D + 1) (q.take n) = its) (hj : j < n) (h : j < q.length) (e : q[j].dep = D + 1) : its[blN D q j]? = some (q[j].d, q[j].c) := by
  have hs : q.take n = q.take j ++ (q[j] :: (q.take n).drop (j + 1)) := by
    have h1 : j < (q.take n).length := by simp; omega
    have h2 := List.take_append_drop j (q.take n)
    rw [List.drop_eq_getElem_cons h1, List.getElem_take, List.take_take, Nat.min_eq_left (by omega)] at h2
    exact h2.symm
  rw [← hq, hs, rtF, List.filter_append, List.filter_cons_of_pos (by simpa using e), List.map_append, List.getElem?_append_right (by simp [blN, rtF]), List.map_cons]
  simp [blN, rtF]
def enI (r : List Iss) (lt : List Int) (D : Int) (ps : List (Int × Int)) (t : List Brn) (i : Nat) (b : Brn) (x : Iss) (s : (Int → Int) × List (Int × Int)) (q : List Brn) (j : Nat) : St :=
  ⟨(189, .int .i64 j) :: (188, .int .i64 q.length) :: (187, .vsl (q.map bra)) :: (21, .int .i64 (blN b.dep q j : Nat)) :: (19, .ptr 19 0) :: (18, .ptr 18 0) :: (17, .int .i64 i) :: (74, .int .i64 i) :: (73, .int .i64 t.length) :: (72, .vsl (t.map bra)) :: enC r lt D ps t,
   (19, .box [.int .i64 x.d, .int .i64 x.l, .int .u8 x.k, .vsl (x.its.map ita), .vsl (x.dms.map dma)]) :: (18, .box [.int .i64 b.dep, .int .i64 b.d, .int .i64 b.l, .int .i64 b.c]) :: enB r s⟩
def enE (r : List Iss) (lt : List Int) (D : Int) (ps : List (Int × Int)) (t : List Brn) (s : (Int → Int) × List (Int × Int)) (i : Nat) : St := ⟨(256, .int .i64 i) :: (255, .int .i64 ps.length) :: (254, .vsl (ps.map ita)) :: enC r lt D ps t, enB r s⟩
theorem kept_wy (o : List (Nat × AObj)) (w : Int → Int) : keptO o (.box (wyC w)) = true := by simp [keptO, wyC, keptA, AV.keys]
section
variable {G : Nat → Option (List AV)}

set_option maxHeartbeats 8000000 in
set_option maxRecDepth 100000 in
theorem ends_pc (hG : GC G) (r : List Iss) (b : List Int) (w : Int) (hk : ∀ x ∈ r, KOk x) (hb : Ubs b) (w0 : 0 ≤ w ∧ w ≤ 255) :
    PC Tryd.prog G 7 [rega r, .vsl (b.map ua), .int .u8 w] (.bool true) := by
  have hA := alive_pc hG
  have hrd0 := ready_pc (G := G) r hk
  cases hr : readyB r
  · rw [hr] at hrd0
    rw [rega] at hrd0
    (refine pc_law02_SheetEnds (Nat.le_of_ble_eq_true rfl) fun R hG hrd => GO_AR mixed 1000 ?_; subst hG)
    simp -implicitDefEqProofs [rc_law02_SheetEnds, rr_law02_SheetEnds, rega]
    (first | refine CallK.of (hA) (by simp) ?_ | refine CallD.of (hA) (by simp) ?_)
    simp -implicitDefEqProofs []
    (first | refine CallK.of (hrd0) (by simp) ?_ | refine CallD.of (hrd0) (by simp) ?_)
    simp -implicitDefEqProofs []
  obtain ⟨h, ho⟩ := ready_ok hr hk
  have hL := open_listed ho
  have hne : r ≠ [] := by rintro rfl; have := listed_60 hL; simp at this
  have hlt := lsV_ok hL hb
  have hd := drV_mem hL w0.1
  have hls := lettersL_pc (G := G) r b h hL hb
  have hdr := drawing_pc (G := G) r w h hL w0.1 w0.2
  have hnm := numbers_pc (G := G) r h.1.1 hne
  have hns : Sml (nums r) := by have := listed_20 hL; unfold Sml; omega
  have hix := fun n => index_pc (G := G) (nums r) n hns
  have hhn := fun n => hasL_pc (G := G) (nums r) n hns
  have hll := lsV_len r b (nums r).length
  have hex : ∀ n ∈ nums r, PC Tryd.prog G 33 [.agg [.vsl (r.map isa)], .vsl ((lsV r b (nums r).length).map ia), .int .i64 n] (.tup [.vsl ((pzN r (lsV r b (nums r).length) n).map ita), .int .i64 0]) := fun n hn => by
    have := explP_pc hG r (lsV r b (nums r).length) n h
    rw [exV_pz ho hlt hn, rega] at this
    exact this
  have hpl : (pzN r (lsV r b (nums r).length) (drV r w)).length ≤ 20 := Nat.le_trans (ptN_len _ _ _) (listed_20 hL)
  have htr := treeP_pc hG r (lsV r b (nums r).length) (drV r w) h
  have htl := trE_sml (r := r) (lt := lsV r b (nums r).length) (n := drV r w)
  have ltk : ∀ n ∈ nums r, ∀ hh : (nums r).idxOf n < (lsV r b (nums r).length).length, (lsV r b (nums r).length)[(nums r).idxOf n]'hh = ltOf r (lsV r b (nums r).length) n := fun n hn hh => by
    rw [ltOf, List.getD_eq_getElem?_getD, List.getElem?_eq_getElem hh]; rfl
  have hfx := fun n (hn : n ∈ nums r) => tk_some hL hlt hn
  have hatV := fun n (hn : n ∈ nums r) => at_pc hG r n (ltOf r (lsV r b (nums r).length) n) h
  have hat : ∀ n, n ∈ nums r → PC Tryd.prog G 27 [.agg [.vsl (r.map isa)], .agg [.int .i64 n, .int .i64 (ltOf r (lsV r b (nums r).length) n)]] (.tup [.agg (isa (tkV r (lsV r b (nums r).length) n)), .int .i64 0]) := fun n hn => by
    have h1 := hatV n hn
    have ev : atP r n (ltOf r (lsV r b (nums r).length) n) = (tkV r (lsV r b (nums r).length) n, 0) := by simp [atP, ho, hfx n hn]
    rw [ev, rega] at h1
    exact h1
  have hltk : ∀ n ∈ nums r, (tkV r (lsV r b (nums r).length) n).l = ltOf r (lsV r b (nums r).length) n := fun n hn => (findN_mem (hfx n hn)).2.2
  have hend := fun i bb => end_at ho hlt hd (i := i) (b := bb)
  have hgE := wyV_end ho hlt hd
  have hgP := good_pz ho hlt hd
  have hps := pz_pos (r := r) (lt := lsV r b (nums r).length) (d := drV r w)
  have hte : (trE r (lsV r b (nums r).length) (drV r w)) = ([], 4) ∨ (trE r (lsV r b (nums r).length) (drV r w)) = (trV (tkV r (lsV r b (nums r).length)) 6 0 (drV r w) 1, 0) := by
    unfold trE
    rw [if_pos (ask_ok ho hlt hd)]
    split
    · exact .inl rfl
    · exact .inr rfl
  have hpsrt : ∀ (i : Nat) (y z : Int × Int), (pzN r (lsV r b (nums r).length) (drV r w))[i]? = some y → (pzN r (lsV r b (nums r).length) (drV r w))[i + 1]? = some z → y.1 < z.1 := fun i y z hy hz => by
    have hp : ((pzN r (lsV r b (nums r).length) (drV r w)).map (·.1)).Pairwise (· < ·) := by
      rw [pzN, ptN, List.take_length, List.map_map]
      have e : ((fun x : Int × Int => x.1) ∘ fun n => (n, paZ (tkV r (lsV r b (nums r).length)) 6 (drV r w) n)) = id := rfl
      rw [e, List.map_id]
      exact (nums_lt (ord_of hL)).filter _
    obtain ⟨hi, rfl⟩ := List.getElem?_eq_some_iff.1 hy
    obtain ⟨hj, rfl⟩ := List.getElem?_eq_some_iff.1 hz
    have := List.pairwise_iff_getElem.1 hp i (i + 1) (by simpa using hi) (by simpa using hj) (by omega)
    simpa using this
  rw [hr] at hrd0
  rw [rega] at hrd0 hls hdr hnm htr
  have hroot : ∀ bb, (trV (tkV r (lsV r b (nums r).length)) 6 0 (drV r w) 1)[0]? = some bb → bb = ⟨0, drV r w, ltOf r (lsV r b (nums r).length) (drV r w), 1⟩ := fun bb hbb => by
    rw [tr_cons] at hbb
    simp at hbb
    rw [← hbb, hltk _ hd]
  have htne : trV (tkV r (lsV r b (nums r).length)) 6 0 (drV r w) 1 ≠ [] := by rw [tr_cons]; simp
  generalize hD : drV r w = D at *
  generalize hlt0 : lsV r b (nums r).length = lt at *
  (refine pc_law02_SheetEnds (Nat.le_of_ble_eq_true rfl) fun R hG hrd => GO_AR mixed 1000 ?_; subst hG)
  simp -implicitDefEqProofs [rc_law02_SheetEnds, rr_law02_SheetEnds, rega]
  (first | refine CallK.of (hA) (by simp) ?_ | refine CallD.of (hA) (by simp) ?_)
  simp -implicitDefEqProofs []
  (first | refine CallK.of (hrd0) (by simp) ?_ | refine CallD.of (hrd0) (by simp) ?_)
  simp -implicitDefEqProofs []
  (first | refine CallK.of (hls) (by simp) ?_ | refine CallD.of (hls) (by simp) ?_)
  simp -implicitDefEqProofs []
  (first | refine CallK.of (hdr) (by simp) ?_ | refine CallD.of (hdr) (by simp) ?_)
  simp -implicitDefEqProofs []
  refine ⟨rfl, ?_⟩
  (first | refine CallK.of (hex D hd) (by simp) ?_ | refine CallD.of (hex D hd) (by simp) ?_)
  simp -implicitDefEqProofs []
  (first | refine CallK.of (htr) (by simp) ?_ | refine CallD.of (htr) (by simp) ?_)
  rcases hte with hte | hte
  · rw [hte]
    simp -implicitDefEqProofs []
  rw [hte] at htl ⊢
  have htl : (trV (tkV r lt) 6 0 D 1).length ≤ 16777216 := htl
  generalize hT : trV (tkV r lt) 6 0 D 1 = t at *
  generalize hPS : pzN r lt D = ps at *
  simp -implicitDefEqProofs []
  (first | refine CallK.of (hnm) (by simp) ?_ | refine CallD.of (hnm) (by simp) ?_)
  simp -implicitDefEqProofs []
  refine AR_for (enO r lt D ps t) (fun _ => True) t.length ?_ trivial ?_ ?_
  · have z0 : dpA [] = [] := rfl
    ((try simp only [enO, enC, enB, wyV, wyC, List.take_zero, List.foldl_nil, z0]); refine Weak.sub (by simp [lk, keptA, AV.keys, enO, enC, enB, wyV, wyC, List.take_zero, List.foldl_nil, z0]) ?_; simp only [enO, enC, enB, wyV, wyC, List.take_zero, List.foldl_nil, z0, List.cons_append, List.nil_append, List.mem_cons, List.not_mem_nil, or_false, forall_eq_or_imp, forall_eq, kept_dpA2, kept_wy, and_true]; (try simp [lk, keptO, keptA, AV.keys, enO, enC, enB, wyV, wyC, List.take_zero, List.foldl_nil, z0]))
  · intro i hi _
    obtain ⟨bb, hbb⟩ : ∃ bb, bb = t[i] := ⟨_, rfl⟩
    have hbg : t[i]? = some bb := by rw [hbb]; exact List.getElem?_eq_getElem hi
    have hE := hend i bb hbg
    obtain ⟨K, hK⟩ : ∃ K : Nat, bb.dep = K := ⟨bb.dep.toNat, by have := hE.dep0; omega⟩
    have hK6 : K < 6 := by have := hE.dep6; omega
    have hK6' : (K : Int) < 6 := by omega
    have hbi : t[i] = bb := hbb.symm
    have hnum := hE.num
    have hl : bb.l = ltOf r lt bb.d := by rw [hE.ltr, hltk _ hnum]
    have hc1 := hE.c1
    have hc2 := hE.c20
    obtain ⟨n, hn1, hn2, hn3, hn4⟩ := hE.seg
    have sc := wyV_succ (T := tkV r lt) hi
    rw [hbi] at sc
    generalize hs1 : wyV (tkV r lt) t i = s1 at *
    obtain ⟨w1, m1⟩ := s1
    have wi : IntKind.i64.wrap ((i : Int) + 1) = (i : Int) + 1 := wrapI (by omega) (by omega)
    have hK5 : K ≤ 5 := by omega
    have n1 : ¬ (K : Int) < 0 := by omega
    have n2 : ¬ 6 ≤ (K : Int) := by omega
    have n2' : ¬ 6 ≤ K := by omega
    have n3 : ¬ bb.c < 1 := by omega
    have n4 : ¬ 20 < bb.c := by omega
    have hix1 := hix bb.d
    have hid : idx (nums r) bb.d = ((nums r).idxOf bb.d : Int) := by rw [idx, if_pos hnum]
    rw [hid] at hix1
    have hhn1 := hhn bb.d
    rw [decide_eq_true hnum] at hhn1
    obtain ⟨I, hI⟩ : ∃ I, I = (nums r).idxOf bb.d := ⟨_, rfl⟩
    have iI' : I < lt.length := by have := (nums_idx hnum).1; omega
    have lI : ∀ hh : I < lt.length, lt[I]'hh = bb.l := by rw [hI, hl]; exact ltk bb.d hnum
    have lI := lI iI'
    rw [← hI] at hix1
    have hatx := hat bb.d hnum
    rw [← hl] at hatx
    generalize hx0 : tkV r lt bb.d = x at *
    have ex : isa x = [.int .i64 x.d, .int .i64 x.l, .int .u8 x.k, .vsl (x.its.map ita), .vsl (x.dms.map dma)] := rfl
    have hcase : (i = 0 ∧ K = 0 ∧ bb.d = D ∧ bb.c = 1) ∨ ∃ m, i = m + 1 ∧ 1 ≤ K ∧ ∃ hm : m < t.length, (K : Int) ≤ t[m].dep + 1 ∧ 0 ≤ t[m].dep ∧ t[m].dep < 6 := by
      match i, hbg, hE, hi with
      | 0, hbg, _, _ =>
        have := hroot bb hbg
        rw [this] at hK ⊢
        exact .inl ⟨rfl, by simp only at hK; omega, rfl, rfl⟩
      | m + 1, _, hE, hi =>
        have h1 := hE.up (by omega)
        have hm : m < t.length := by omega
        rw [Nat.add_sub_cancel, List.getD_eq_getElem?_getD, List.getElem?_eq_getElem hm] at h1
        simp only [Option.getD_some] at h1
        have h2 := hend m t[m] (List.getElem?_eq_getElem hm)
        exact .inr ⟨m, rfl, by omega, hm, by omega, h2.dep0, h2.dep6⟩
    have put1 := wyC_put w1 bb.c hK6
    obtain ⟨w2, hw2⟩ : ∃ w2 : Int → Int, w2 = fun j => if j = (K : Int) then bb.c else w1 j := ⟨_, rfl⟩
    rw [← hw2] at put1
    simp only [splice, List.length_singleton, List.append_assoc, List.cons_append, List.nil_append] at put1
    have L6 : ∀ w, (wyC w).length = 6 := fun _ => rfl
    refine GO_AR mixed 12 ?_
    simp -implicitDefEqProofs [enO, enC, enB, hi, hbi, bra, hK, hs1]
    refine GO0 (AR_cut (S := ⟨(17, .int .i64 i) :: (18, .ptr 18 0) :: (74, .int .i64 i) :: (73, .int .i64 t.length) :: (72, .vsl (t.map bra)) :: enC r lt D ps t, (18, .box [.int .i64 K, .int .i64 bb.d, .int .i64 bb.l, .int .i64 bb.c]) :: enB r (w1, m1)⟩) ?_ ?_)
    · refine GO_AR mixed 1000 ?_
      rcases hcase with ⟨ri, rK, rd, rc⟩ | ⟨m, ri, rK, hm, q1, q2, q3⟩
      · rw [rd] at hix1 hhn1 hatx hnum hl
        subst ri rK
        simp -implicitDefEqProofs [rd, rc]
        (first | refine CallK.of (hix1) (by simp) ?_ | refine CallD.of (hix1) (by simp) ?_)
        simp -implicitDefEqProofs [iI', lI, ia]
        (first | refine CallK.of (hhn1) (by simp) ?_ | refine CallD.of (hhn1) (by simp) ?_)
        simp -implicitDefEqProofs []
        (first | refine CallK.of (hix1) (by simp) ?_ | refine CallD.of (hix1) (by simp) ?_)
        simp -implicitDefEqProofs [iI', lI, ia]
        refine ⟨rfl, ?_⟩
        ((try simp only [enC, enB, rd, rc]); refine Weak.sub (by simp [lk, keptA, AV.keys, enC, enB, rd, rc]) ?_; simp only [enC, enB, rd, rc, List.cons_append, List.nil_append, List.mem_cons, List.not_mem_nil, or_false, forall_eq_or_imp, forall_eq, kept_dpA2, kept_wy, and_true]; (try simp [lk, keptO, keptA, AV.keys, enC, enB, rd, rc]))
      · have wm1 : IntKind.i64.wrap ((i : Int) - 1) = m := by rw [wrapI (by omega) (by omega)]; omega
        have wm2 : IntKind.i64.wrap (t[m].dep + 1) = t[m].dep + 1 := wrapI (by omega) (by omega)
        have n5 : ¬ (i : Int) = 0 := by omega
        have n5' : ¬ i = 0 := by omega
        have n6 : 0 < (i : Int) := by omega
        have n6' : 0 < i := by omega
        have n7 : ¬ (K : Int) < 1 := by omega
        have n7' : ¬ K = 0 := by omega
        have n8 : ¬ t[m].dep + 1 < (K : Int) := by omega
        simp -implicitDefEqProofs [bra, n1, n2, n2', n5, n5', n6, n6', n7, n7', wm1, hm, wm2, n8]
        (first | refine CallK.of (hhn1) (by simp) ?_ | refine CallD.of (hhn1) (by simp) ?_)
        simp -implicitDefEqProofs []
        (first | refine CallK.of (hix1) (by simp) ?_ | refine CallD.of (hix1) (by simp) ?_)
        simp -implicitDefEqProofs [iI', lI, ia, n3, n4]
        refine ⟨rfl, ?_⟩
        ((try simp only [enC, enB]); refine Weak.sub (by simp [lk, keptA, AV.keys, enC, enB]) ?_; simp only [enC, enB, List.cons_append, List.nil_append, List.mem_cons, List.not_mem_nil, or_false, forall_eq_or_imp, forall_eq, kept_dpA2, kept_wy, and_true]; (try simp [lk, keptO, keptA, AV.keys, enC, enB]))
    clear hcase
    have e3 : (wyS (tkV r lt) (w1, m1) bb).1 = fun j => if j = (K : Int) then (if 0 < (K : Int) then mulW bb.c (w1 ((K : Int) - 1)) else bb.c) else w1 j := by simp only [wyS, hK]
    obtain ⟨w3, hw3⟩ : ∃ w3, w3 = (wyS (tkV r lt) (w1, m1) bb).1 := ⟨_, rfl⟩
    rw [← hw3] at e3
    refine AR_cut (S := ⟨(17, .int .i64 i) :: (18, .ptr 18 0) :: (74, .int .i64 i) :: (73, .int .i64 t.length) :: (72, .vsl (t.map bra)) :: enC r lt D ps t, (18, .box [.int .i64 K, .int .i64 bb.d, .int .i64 bb.l, .int .i64 bb.c]) :: enB r (w2, m1)⟩) ?_
      (AR_cut (S := ⟨(17, .int .i64 i) :: (18, .ptr 18 0) :: (74, .int .i64 i) :: (73, .int .i64 t.length) :: (72, .vsl (t.map bra)) :: enC r lt D ps t, (18, .box [.int .i64 K, .int .i64 bb.d, .int .i64 bb.l, .int .i64 bb.c]) :: enB r (w3, m1)⟩) ?_ ?_)
    · refine GO_AR mixed 1000 ?_
      simp -implicitDefEqProofs [enC, enB, put1, hK6, hK6', hK5, L6]
      ((try simp only [enC, enB]); refine Weak.sub (by simp [lk, keptA, AV.keys, enC, enB]) ?_; simp only [enC, enB, List.cons_append, List.nil_append, List.mem_cons, List.not_mem_nil, or_false, forall_eq_or_imp, forall_eq, kept_dpA2, kept_wy, and_true]; (try simp [lk, keptO, keptA, AV.keys, enC, enB]))
    · refine GO_AR mixed 1000 ?_
      by_cases K0 : K = 0
      · have e4 : w3 = w2 := by rw [e3, hw2]; subst K0; rfl
        have K0' : ¬ 0 < K := by omega
        rw [e4]
        simp -implicitDefEqProofs [enC, enB, K0']
        ((try simp only [enC, enB]); refine Weak.sub (by simp [lk, keptA, AV.keys, enC, enB]) ?_; simp only [enC, enB, List.cons_append, List.nil_append, List.mem_cons, List.not_mem_nil, or_false, forall_eq_or_imp, forall_eq, kept_dpA2, kept_wy, and_true]; (try simp [lk, keptO, keptA, AV.keys, enC, enB]))
      · obtain ⟨k, rfl⟩ : ∃ k, K = k + 1 := ⟨K - 1, by omega⟩
        have wk1 : IntKind.i64.wrap (((k : Int) + 1) - 1) = (k : Int) := by rw [wrapI (by omega) (by omega)]; omega
        have wk2 : IntKind.i64.wrap (k : Int) = (k : Int) := wrapI (by omega) (by omega)
        have g1 : (wyC w2)[k + 1]? = some (.int .i64 bb.c) := by rw [wyC_at w2 hK6, hw2]; simp
        have g2 : (wyC w2)[k]? = some (.int .i64 (w1 k)) := by
          rw [wyC_at w2 (by omega : k < 6), hw2]
          show some (AV.int IntKind.i64 (if (k : Int) = ((k + 1 : Nat) : Int) then bb.c else w1 k)) = _
          rw [if_neg (by omega)]
        have put2 := wyC_put w2 (IntKind.i64.wrap (bb.c * w1 k)) hK6
        have e5 : (fun j => if j = ((k + 1 : Nat) : Int) then IntKind.i64.wrap (bb.c * w1 k) else w2 j) = w3 := by
          rw [e3, hw2]
          funext j
          by_cases e : j = ((k + 1 : Nat) : Int)
          · rw [if_pos e, if_pos e, if_pos (by omega), mulW, show ((k + 1 : Nat) : Int) - 1 = k by omega]
          · rw [if_neg e, if_neg e]
            show (if j = ((k + 1 : Nat) : Int) then bb.c else w1 j) = w1 j
            rw [if_neg e]
        rw [e5] at put2
        simp only [splice, List.length_singleton, List.append_assoc, List.cons_append, List.nil_append] at put2
        have k5 : k < 6 := by omega
        have k5' : (k : Int) < 6 := by omega
        have k6 : k ≤ 4 := by omega
        have k6a : k < 5 := by omega
        have k6' : (k : Int) + 1 < 6 := by omega
        have k7 : (0 : Int) ≤ (k : Int) + 1 := by omega
        have k8 : ((k : Int) + 1).toNat = k + 1 := by omega
        have k9 : (0 : Int) < (k : Int) + 1 := by omega
        have g1' := (List.getElem?_eq_some_iff.1 g1).2
        have g2' := (List.getElem?_eq_some_iff.1 g2).2
        simp -implicitDefEqProofs [enC, enB, wk1, wk2, g1, g2, g1', g2', put2, k5, k5', k6, k6a, k6', k7, k8, k9, L6]
        refine ⟨rfl, ?_⟩
        ((try simp only [enC, enB]); refine Weak.sub (by simp [lk, keptA, AV.keys, enC, enB]) ?_; simp only [enC, enB, List.cons_append, List.nil_append, List.mem_cons, List.not_mem_nil, or_false, forall_eq_or_imp, forall_eq, kept_dpA2, kept_wy, and_true]; (try simp [lk, keptO, keptA, AV.keys, enC, enB]))
    refine GO_run mixed 1000 ?_
    simp -implicitDefEqProofs [enC, enB]
    (first | refine CallK.of (hatx) (by simp) ?_ | refine CallD.of (hatx) (by simp) ?_)
    obtain ⟨Q, hQ⟩ : ∃ Q, Q = t.drop (i + 1) := ⟨_, rfl⟩
    have hQl : Q.length = t.length - (i + 1) := by rw [hQ]; simp
    have eQ : List.drop (i + 1) (List.take t.length (List.map bra t)) = Q.map bra := by rw [List.take_of_length_le (by simp), hQ, List.map_drop]
    have bl4 : ∀ x : Brn, (bra x).length = 4 := fun _ => rfl
    have i1 : i + 1 ≤ t.length := hi
    have i0 : (0 : Int) ≤ (i : Int) + 1 := by omega
    have i2 : ((i : Int) + 1).toNat = i + 1 := by omega
    simp -implicitDefEqProofs [ex, wi, i0, i1, i2, bl4, eQ]
    rw [← hQ, hK] at hn2 hn3
    have hnQ : n ≤ Q.length := by omega
    have hn4' : ∀ hh : n < Q.length, Q[n].dep ≤ K := fun hh => by
      rw [← hK]
      refine hn4 _ ?_
      rw [← List.getElem?_drop, ← hQ]
      exact List.getElem?_eq_getElem hh
    have hb0 : blN K Q n = x.its.length := by rw [blN, hn3]
    have hi8 : x.its.length ≤ 8 := by rw [← hx0]; exact tk_8 ho hlt bb.d hnum
    refine AR_loop (enI r lt D ps t i ⟨K, bb.d, bb.l, bb.c⟩ x (w3, m1) Q) (fun j => j ≤ n) (fun j => n - j) 0 ?_ (Nat.zero_le _) ?_
    · ((try simp only [enI, enC, enB, blN, rtF, List.take_zero, List.filter_nil, List.map_nil, List.length_nil]); refine Weak.sub (by simp [lk, keptA, AV.keys, enI, enC, enB, blN, rtF, List.take_zero, List.filter_nil, List.map_nil, List.length_nil]) ?_; simp only [enI, enC, enB, blN, rtF, List.take_zero, List.filter_nil, List.map_nil, List.length_nil, List.cons_append, List.nil_append, List.mem_cons, List.not_mem_nil, or_false, forall_eq_or_imp, forall_eq, kept_dpA2, kept_wy, and_true]; (try simp [lk, keptO, keptA, AV.keys, enI, enC, enB, blN, rtF, List.take_zero, List.filter_nil, List.map_nil, List.length_nil]))
    · intro j hj
      refine GO_AR mixed 1000 ?_
      rcases Nat.lt_or_ge j n with hjn | hjn
      · have hjQ : j < Q.length := by omega
        have wj : IntKind.i64.wrap ((j : Int) + 1) = (j : Int) + 1 := wrapI (by omega) (by omega)
        have wK : IntKind.i64.wrap ((K : Int) + 1) = (K : Int) + 1 := wrapI (by omega) (by omega)
        have hd1 : (K : Int) < Q[j].dep := hn2 _ (List.mem_of_getElem? (i := j) (by rw [List.getElem?_take_of_lt hjn]; exact List.getElem?_eq_getElem hjQ))
        have hd2 : ¬ Q[j].dep ≤ (K : Int) := by omega
        have bs := blN_succ (D := K) hjQ
        have hbat := bl_at hn3 hjn hjQ
        generalize hz : Q[j] = z at *
        by_cases e : z.dep = (K : Int) + 1
        · rw [if_pos e] at bs
          have h1 := hbat e
          obtain ⟨h2, h3⟩ := List.getElem?_eq_some_iff.1 h1
          have h4 : ¬ x.its.length ≤ blN K Q j := by omega
          have h5 : ¬ (x.its.length : Int) ≤ (blN K Q j : Int) := by omega
          have wb : IntKind.i64.wrap ((blN K Q j : Int) + 1) = (blN K Q j : Int) + 1 := wrapI (by omega) (by omega)
          have hit := itemL_pc (G := R.G) z.d z.c
          generalize hB : blN K Q j = B at *
          have h6 : ¬ (K : Int) + 1 ≤ K := by omega
          simp -implicitDefEqProofs [enI, enC, enB, hjQ, hz, bra, hd2, e, wK, hB, h2, h3, h4, h5, h6, ita]
          (first | refine CallK.of (hit) (by simp) ?_ | refine CallD.of (hit) (by simp) ?_)
          simp -implicitDefEqProofs [wb, wj]
          refine ⟨rfl, j + 1, ?_, (show j + 1 ≤ n by omega), (show n - (j + 1) < n - j by omega)⟩
          ((try simp only [enI, enC, enB, bs, hB]); refine Weak.sub (by simp [lk, keptA, AV.keys, enI, enC, enB, bs, hB]) ?_; simp only [enI, enC, enB, bs, hB, List.cons_append, List.nil_append, List.mem_cons, List.not_mem_nil, or_false, forall_eq_or_imp, forall_eq, kept_dpA2, kept_wy, and_true]; (try simp [lk, keptO, keptA, AV.keys, enI, enC, enB, bs, hB]))
        · rw [if_neg e] at bs
          generalize hB : blN K Q j = B at *
          simp -implicitDefEqProofs [enI, enC, enB, hjQ, hz, bra, hd2, e, wK, hB, wj]
          refine ⟨j + 1, ?_, (show j + 1 ≤ n by omega), (show n - (j + 1) < n - j by omega)⟩
          ((try simp only [enI, enC, enB, bs, hB]); refine Weak.sub (by simp [lk, keptA, AV.keys, enI, enC, enB, bs, hB]) ?_; simp only [enI, enC, enB, bs, hB, List.cons_append, List.nil_append, List.mem_cons, List.not_mem_nil, or_false, forall_eq_or_imp, forall_eq, kept_dpA2, kept_wy, and_true]; (try simp [lk, keptO, keptA, AV.keys, enI, enC, enB, bs, hB]))
      · obtain rfl : j = n := by omega
        have wK : IntKind.i64.wrap ((K : Int) + 1) = (K : Int) + 1 := wrapI (by omega) (by omega)
        by_cases hq : j < Q.length
        case' pos =>
          have hd3 := hn4' hq
          simp -implicitDefEqProofs [enI, enC, enB, hq, bra, hd3]
          refine GO_ret mixed 1000 ?_
        case' neg =>
          have hq' : ¬ (j : Int) < Q.length := by omega
          simp -implicitDefEqProofs [enI, enC, enB, hq]
          refine GO_ret mixed 1000 ?_
        all_goals
          have gw : (wyC w3)[K]? = some (.int .i64 (w3 K)) := wyC_at w3 hK6
          have gw' := (List.getElem?_eq_some_iff.1 gw).2
          have gp := get_dp bb.d m1
          have hw3K : w3 K = if 0 < (K : Int) then mulW bb.c (w1 ((K : Int) - 1)) else bb.c := by rw [e3]; simp
          have es2 : wyS (tkV r lt) (w1, m1) bb = (w3, if x.its = [] then mpPut bb.d (addW ((dpLk bb.d m1).getD 0) (w3 K)) m1 else m1) := by
            refine Prod.ext hw3.symm ?_
            simp only [wyS, hx0, hK, hw3K]
          rw [es2] at sc
          by_cases hit : x.its = []
          · rw [if_pos hit] at sc
            have pc := put_ct bb.d (addW ((dpLk bb.d m1).getD 0) (w3 K)) m1
            have kl : K ≤ 5 := hK5
            cases q : dpLk bb.d m1 with
            | none =>
              rw [q] at gp pc sc
              simp only [Option.map_none, Option.getD_none, addW, Int.zero_add] at gp pc sc
              simp -implicitDefEqProofs [hb0, hit, gp, gw, gw', hK6, hK6', kl, L6, pc, wi]
              refine ⟨rfl, ?_⟩
              ((try simp only [enO, enC, enB, sc]); refine Weak.sub (by simp [lk, keptA, AV.keys, enO, enC, enB, sc]) ?_; simp only [enO, enC, enB, sc, List.cons_append, List.nil_append, List.mem_cons, List.not_mem_nil, or_false, forall_eq_or_imp, forall_eq, kept_dpA2, kept_wy, and_true]; (try simp [lk, keptO, keptA, AV.keys, enO, enC, enB, sc]))
            | some v =>
              rw [q] at gp pc sc
              simp only [Option.map_some, Option.getD_some, addW] at gp pc sc
              simp -implicitDefEqProofs [hb0, hit, gp, gw, gw', hK6, hK6', kl, L6, pc, wi]
              refine ⟨rfl, ?_⟩
              ((try simp only [enO, enC, enB, sc]); refine Weak.sub (by simp [lk, keptA, AV.keys, enO, enC, enB, sc]) ?_; simp only [enO, enC, enB, sc, List.cons_append, List.nil_append, List.mem_cons, List.not_mem_nil, or_false, forall_eq_or_imp, forall_eq, kept_dpA2, kept_wy, and_true]; (try simp [lk, keptO, keptA, AV.keys, enO, enC, enB, sc]))
          · rw [if_neg hit] at sc
            simp -implicitDefEqProofs [hb0, hit, wi]
            ((try simp only [enO, enC, enB, sc]); refine Weak.sub (by simp [lk, keptA, AV.keys, enO, enC, enB, sc]) ?_; simp only [enO, enC, enB, sc, List.cons_append, List.nil_append, List.mem_cons, List.not_mem_nil, or_false, forall_eq_or_imp, forall_eq, kept_dpA2, kept_wy, and_true]; (try simp [lk, keptO, keptA, AV.keys, enO, enC, enB, sc]))
  · intro _
    refine GO_AR mixed 1000 ?_
    have gL := hgE.len hgP
    have hmP : ∀ y ∈ ps, (dpLk y.1 (wyV (tkV r lt) t t.length).2) = some y.2 := fun y hy => by
      obtain ⟨h1, h2⟩ := hps y hy
      rw [hgE.2 y.1, ← h2, if_neg (by omega)]
    obtain ⟨sE, hsE⟩ : ∃ sE, sE = wyV (tkV r lt) t t.length := ⟨_, rfl⟩
    rw [← hsE] at gL hmP
    obtain ⟨wE, mE⟩ := sE
    simp only at gL hmP
    have dl : (dpA mE).length = ps.length := by rw [← gL]; simp [dpA]
    have tl0 : 0 < t.length := List.length_pos_iff.2 htne
    simp -implicitDefEqProofs [enO, enC, enB, ← hsE]
    refine GO_ret mixed 1000 ?_
    simp -implicitDefEqProofs [htne, dl]
    refine AR_for (enE r lt D ps t (wE, mE)) (fun _ => True) ps.length ?_ trivial ?_ ?_
    · ((try simp only [enE, enC, enB]); refine Weak.sub (by simp [lk, keptA, AV.keys, enE, enC, enB]) ?_; simp only [enE, enC, enB, List.cons_append, List.nil_append, List.mem_cons, List.not_mem_nil, or_false, forall_eq_or_imp, forall_eq, kept_dpA2, kept_wy, and_true]; (try simp [lk, keptO, keptA, AV.keys, enE, enC, enB]))
    · intro j hj _
      refine GO_AR mixed 1000 ?_
      have wj : IntKind.i64.wrap ((j : Int) + 1) = (j : Int) + 1 := wrapI (by omega) (by omega)
      have gp := get_dp ps[j].1 mE
      rw [hmP _ (List.getElem_mem hj)] at gp
      simp only [Option.map_some] at gp
      cases j with
      | zero =>
        have w1 : IntKind.i64.wrap 1 = 1 := rfl
        simp -implicitDefEqProofs [enE, enC, enB, hj, ita, gp, w1]
        refine ⟨rfl, ?_⟩
        ((try simp only [enE, enC, enB]); refine Weak.sub (by simp [lk, keptA, AV.keys, enE, enC, enB]) ?_; simp only [enE, enC, enB, List.cons_append, List.nil_append, List.mem_cons, List.not_mem_nil, or_false, forall_eq_or_imp, forall_eq, kept_dpA2, kept_wy, and_true]; (try simp [lk, keptO, keptA, AV.keys, enE, enC, enB]))
      | succ k =>
        have hk : k < ps.length := by omega
        have hlt2 := hpsrt k _ _ (List.getElem?_eq_getElem hk) (List.getElem?_eq_getElem hj)
        have k1 : (k : Int) + 1 < ps.length := by omega
        have k2 : ((k : Int) + 1).toNat = k + 1 := by omega
        have k3 : (0 : Int) ≤ (k : Int) + 1 := by omega
        have k4 : (0 : Int) < (k : Int) + 1 := by omega
        have wk : IntKind.i64.wrap ((k : Int) + 1 - 1) = (k : Int) := by rw [wrapI (by omega) (by omega)]; omega
        have wk2 : IntKind.i64.wrap (k : Int) = (k : Int) := wrapI (by omega) (by omega)
        have wk3 : IntKind.i64.wrap ((k : Int) + 1 + 1) = (k : Int) + 1 + 1 := wrapI (by omega) (by omega)
        have n9 : ¬ ps[k + 1].1 ≤ ps[k].1 := by omega
        simp -implicitDefEqProofs [enE, enC, enB, hj, hk, k1, k2, k3, k4, wk, wk2, wk3, ita, gp, n9]
        refine ⟨rfl, ?_⟩
        ((try simp only [enE, enC, enB]); refine Weak.sub (by simp [lk, keptA, AV.keys, enE, enC, enB]) ?_; simp only [enE, enC, enB, List.cons_append, List.nil_append, List.mem_cons, List.not_mem_nil, or_false, forall_eq_or_imp, forall_eq, kept_dpA2, kept_wy, and_true]; (try simp [lk, keptO, keptA, AV.keys, enE, enC, enB]))
    · intro _
      refine GO_AR mixed 1000 ?_
      simp -implicitDefEqProofs [enE, enC, enB]
      refine GO_ret mixed 1000 ?_
      simp -implicitDefEqProofs []
end
end Go.Proofs.YtdpmioiamcgfkaaDoor
