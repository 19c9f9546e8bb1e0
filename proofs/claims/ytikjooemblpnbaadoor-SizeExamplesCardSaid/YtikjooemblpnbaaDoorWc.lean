/-
  strings.Split at a space, strings.Cut at a point, must: bridged into the abstract machine.
-/
import Derived.Test.YtikjooemblpnbaaDoorWb
import Derived.Defers
import Derived.Recover
namespace Go.Proofs.YtikjooemblpnbaaDoor
open Go.RowKit

/-- The table of units, and what internal/bytealg.MaxLen holds. -/
def Gs (G : Nat → Option (List AV)) : Prop := G 0 = some unitsT ∧ ∃ m, G 1 = some [.int .i64 m]

section
variable {G : Nat → Option (List AV)} {M : Nat → Prop} {W : World}

theorem Gs.maxLen (h : Gs G) (hG : GR G M W) : ∃ m, W.cell? ⟨1, 0, none⟩ = some (.int .i64 m) := by
  obtain ⟨-, m, hm⟩ := h
  have h := hG _ _ hm
  generalize hp : (Value.pointer (some ⟨1, 0, none⟩)) = p at h
  cases h with
  | vptr _ _ b o f hb hM hc hr =>
    simp only [Value.pointer.injEq, Option.some.injEq, Addr.mk.injEq, Nat.add_zero] at hp
    obtain ⟨rfl, rfl, -⟩ := hp
    have h1 := hc 0 (by simp)
    have h2 := hr 0 _ rfl
    rw [h2.int_inv] at h1
    exact ⟨m, by simpa using h1⟩

/-- The words of a text, between spaces. -/
def wordsV (s : ByteArray) : List ByteArray := Lib.splitB sp1 0 (Lib.countB s sp1) s
def strRows (l : List ByteArray) : List (List AV) := l.map fun x => [.str x]

theorem split_pc (hg : Gs G) (s : ByteArray) (hs : s.size < 4294967281) : PC Tryd.prog G 68 [.str s, .str ⟨#[32]⟩] (.vsl (strRows (wordsV s))) := by
  refine ⟨by kernel_rfl, fun M W vs hM hG hz hv => ?_⟩
  obtain ⟨m, hm⟩ := hg.maxLen hG
  obtain ⟨l⟩ := vs
  match l, hz, hv with
  | [x0, x1], _, hv =>
    rw [(hv 0 _ x0 rfl rfl).str_inv, (hv 1 _ x1 rfl rfl).str_inv]
    have hle := Lib.countB_le sp1 (by decide) s.size s (Nat.le_refl _)
    have hlen := Lib.splitB_all sp1 (by decide) 0 _ s rfl
    refine (Tryd.strings_Split s sp1 m W hs hm (by decide)).mono ?_
    rintro e w ⟨rfl, rfl⟩
    refine ⟨_, rfl, ?_, Ext.al (Ext.refl _)⟩
    have hl : (strRows (wordsV s)).length = Lib.countB s sp1 + 1 := by simp [strRows, wordsV, hlen]
    rw [← hl]
    refine .vsl _ _ _ 1 W.heap.size 0 (fun i _ => (((Lib.splitB sp1 0 (Lib.countB s sp1) s).map Value.string).toArray).getD i undef) (Nat.le_refl _) (by rw [hl]; unfold maxLen; omega) (fun _ => ⟨rfl, by simp, fun h => absurd (hM _ h) (Nat.lt_irrefl _)⟩) (fun h => by cases h) (by simp [strRows]) (fun i j hi hj => ?_) (fun i j r x hi hj => ?_)
    · obtain rfl : j = 0 := by omega
      have hi' : i < (Lib.splitB sp1 0 (Lib.countB s sp1) s).length := by rw [hl] at hi; omega
      unfold World.cell?
      simp only [Nat.zero_add, Nat.mul_one, Nat.add_zero]
      rw [World.alloc_heap_new]
      simp [hi', Array.getD]
    · simp only [strRows, wordsV, List.getElem?_map, Option.map_eq_some_iff] at hi
      obtain ⟨y, hy, rfl⟩ := hi
      have hi' : i < (Lib.splitB sp1 0 (Lib.countB s sp1) s).length := (List.getElem?_eq_some_iff.1 hy).1
      cases j with
      | succ j => simp at hj
      | zero =>
        simp at hj
        subst hj
        rw [List.getElem?_eq_getElem hi'] at hy
        simp only [Option.some.injEq] at hy
        simp [Array.getD, hi', hy]
        exact .str _

/-- What stands ahead of the first point, and behind it. -/
def cutV (s : ByteArray) : ByteArray × ByteArray × Bool := (⟨(Lib.cut s.data.toList [46]).1.toArray⟩, ⟨(Lib.cut s.data.toList [46]).2.1.toArray⟩, (Lib.cut s.data.toList [46]).2.2)

theorem cut_pc (hg : Gs G) (s : ByteArray) (hs : s.size < 4294967281) : PC Tryd.prog G 91 [.str s, .str ⟨#[46]⟩] (.tup [.str (cutV s).1, .str (cutV s).2.1, .bool (cutV s).2.2]) := by
  refine ⟨by kernel_rfl, fun M W vs hM hG hz hv => ?_⟩
  obtain ⟨m, hm⟩ := hg.maxLen hG
  obtain ⟨l⟩ := vs
  match l, hz, hv with
  | [x0, x1], _, hv =>
    rw [(hv 0 _ x0 rfl rfl).str_inv, (hv 1 _ x1 rfl rfl).str_inv]
    refine (Tryd.strings_Cut s ⟨#[46]⟩ m W hs hm).mono ?_
    rintro e w ⟨rfl, n, rfl⟩
    refine ⟨_, rfl, ?_, rfl, rfl, rfl, Nat.le_refl _, fun _ _ => rfl⟩
    refine .tup _ _ rfl fun i x u hx hu => ?_
    match i, hx, hu with
    | 0, hx, hu => cases hx; cases hu; exact .str _
    | 1, hx, hu => cases hx; cases hu; exact .str _
    | 2, hx, hu => cases hx; cases hu; exact .bool _

/-- What a text panics with. -/
def textP : List PanicEntry := [{ v := .iface 123 (.agg #[.int .i64 13]), recovered := false }]

theorem must_pc : PC Tryd.prog G 69 [.bool true] (.tup []) := by
  refine ⟨by kernel_rfl, fun M W vs hM hG hz hv => ?_⟩
  obtain ⟨l⟩ := vs
  match l, hz, hv with
  | [x0], _, hv =>
    have h0 := hv 0 _ x0 rfl rfl
    cases h0
    have h : Calls Tryd.prog 69 #[.bool true] W fun e w' => e = .returned (.tuple #[]) ∧ w' = W := by
      have hnot : ∀ (x : Bool) (w : World), (Op.unary .not (.bool x)).run Tryd.prog w = .ok (.bool (!x)) w := fun _ _ => rfl
      go_enter Tryd.func69, Tryd.ntmps69
      go_wp2
      go_end0
      exact ⟨rfl, rfl⟩
    refine h.mono ?_
    rintro e w ⟨rfl, rfl⟩
    exact ⟨_, rfl, .tup [] _ rfl (by simp), Ext.refl _⟩

theorem must_pp : PPC Tryd.prog G 69 [.bool false] textP := by
  refine ⟨by kernel_rfl, fun M W vs hM hG hz hv => ?_⟩
  obtain ⟨l⟩ := vs
  match l, hz, hv with
  | [x0], _, hv =>
    have h0 := hv 0 _ x0 rfl rfl
    cases h0
    have h : Calls Tryd.prog 69 #[.bool false] W fun e w' => e = .panicked textP ∧ w' = W := by
      have hnot : ∀ (x : Bool) (w : World), (Op.unary .not (.bool x)).run Tryd.prog w = .ok (.bool (!x)) w := fun _ _ => rfl
      go_enter Tryd.func69, Tryd.ntmps69
      go_wp2
      exact ⟨rfl, rfl, rfl⟩
    refine h.mono ?_
    rintro e w ⟨rfl, rfl⟩
    exact ⟨rfl, Ext.refl _⟩
end

/-- The number that digits make. -/
def digF (l : List UInt8) : Int := l.foldl (fun n b => 10 * n + ((b.toNat : Int) - 48)) 0
def digB (b : UInt8) : Bool := decide (48 ≤ b.toNat ∧ b.toNat ≤ 57)
theorem digF_snoc (l : List UInt8) (b : UInt8) : digF (l ++ [b]) = 10 * digF l + ((b.toNat : Int) - 48) := by simp [digF]
theorem digF_bd (l : List UInt8) (h : ∀ b ∈ l, digB b = true) : 0 ≤ digF l ∧ digF l < 10 ^ l.length := by
  have gen : ∀ (k : Nat) (l : List UInt8), l.length = k → (∀ b ∈ l, digB b = true) → 0 ≤ digF l ∧ digF l < 10 ^ l.length := by
    intro k
    induction k with
    | zero => intro l hl _; rw [List.length_eq_zero_iff.1 hl]; simp [digF]
    | succ k ih =>
      intro l hl h
      have hne : l ≠ [] := by rintro rfl; simp at hl
      obtain ⟨h1, h2⟩ := ih l.dropLast (by simp [hl]) fun x hx => h x ((List.dropLast_sublist l).subset hx)
      have h3 := of_decide_eq_true (h (l.getLast hne) (List.getLast_mem hne))
      rw [← List.dropLast_concat_getLast hne, digF_snoc, List.length_append]
      have : (10 : Int) ^ (l.dropLast.length + [l.getLast hne].length) = 10 ^ l.dropLast.length * 10 := by simp [Int.pow_succ]
      rw [this]
      omega
  exact gen _ l rfl h

/-- What a decimal number of steps reads. -/
def numV (bh : Nat) (s : ByteArray) : Option Int :=
  if (cutV s).2.2 = true ∧ (cutV s).2.1.size = bh ∧ 1 ≤ (cutV s).1.size ∧ (cutV s).1.size ≤ 6 ∧ ((cutV s).1.data.toList.head? ≠ some 48 ∨ (cutV s).1.size = 1) ∧ ((cutV s).1.data.toList ++ (cutV s).2.1.data.toList).all digB = true
  then some (digF ((cutV s).1.data.toList ++ (cutV s).2.1.data.toList)) else none

section
variable {G : Nat → Option (List AV)}
theorem number_pc (hg : Gs G) (st : Int) (bh : Nat) (nm : ByteArray) (f : FuncId) (hb : bh ≤ 4) (s : ByteArray) (hs : s.size < 4294967281) (n : Int) (h : numV bh s = some n) :
    PC Tryd.prog G 70 [.agg [.int .i64 st, .int .i64 bh, .str nm, .func (.func f) [] []], .str s] (.int .i64 n) := by
  have hcut := cut_pc hg s hs
  unfold numV at h
  split at h
  case isFalse => cases h
  case isTrue hc =>
    simp only [Option.some.injEq] at h
    generalize cutV s = c at *
    obtain ⟨w, p, is⟩ := c
    obtain ⟨rfl, h1, h2, h3, h4, h5⟩ := hc
    simp only at h1 h2 h3 h4 h5 h
    (refine pc_size_unit_number (Nat.le_of_ble_eq_true rfl) fun R hG => GO_AR mixed 1000 ?_; subst hG)
    simp -implicitDefEqProofs [rc_size_unit_number, rr_size_unit_number]
    (first | refine CallK.of (hcut) (by simp) ?_ | refine CallD.of (hcut) (by simp) ?_)
    have i1 : inR (w.size : Int) 1 6 = true := decide_eq_true (by omega)
    simp -implicitDefEqProofs [h1]
    (first | refine CallK.of (inS_pc 1 6 [(w.size : Int)] (by simp)) (by simp) ?_ | refine CallD.of (inS_pc 1 6 [(w.size : Int)] (by simp)) (by simp) ?_)
    have e1 : ([(w.size : Int)].all fun n => inR n 1 6) = true := by simp [i1]
    rw [e1]
    have hw0 : 0 < w.size := by omega
    have hA : w.size + p.size ≤ 9223372036854775807 := by omega
    have hAs : (w ++ p).size = w.size + p.size := ByteArray.size_append
    have hAd : (w ++ p).data.toList = w.data.toList ++ p.data.toList := by simp [ByteArray.data_append]
    rw [← hAd] at h h5
    have hz : ((w[0].toNat : Nat) : Int) = 48 → (w.size : Int) = 1 := fun e48 => by
      rcases h4 with h4 | h4
      · refine absurd ?_ h4
        have e1 : w.data.toList.head? = some w[0] := by
          rw [List.head?_eq_getElem?]
          have : 0 < w.data.size := hw0
          simp only [Array.getElem?_toList, ByteArray.getElem_eq_getElem_data, this, Array.getElem?_eq_getElem]
        rw [e1]
        congr 1
        exact UInt8.toNat.inj (by show w[0].toNat = 48; omega)
      · omega
    rcases Decidable.em (((w[0].toNat : Nat) : Int) = 48) with e48 | e48
    all_goals first | (simp -implicitDefEqProofs [hw0, e48, hz e48]) | (simp -implicitDefEqProofs [hw0, e48])
    all_goals
      (first | refine CallK.of (must_pc) (by simp) ?_ | refine CallD.of (must_pc) (by simp) ?_)
      simp -implicitDefEqProofs [hA]
      generalize w ++ p = A at *
      have hA10 : A.size ≤ 10 := by omega
      refine AR_loop (fun i : Nat => ⟨[(47, .int .i64 i), (46, .int .i64 A.size), (9, .int .i64 (digF (A.data.toList.take i))), (8, .str A)], []⟩) (fun i => i ≤ A.size) (fun i => A.size - i) 0 (Weak.sub (by simp [lk, keptA, AV.keys, digF]; omega) (by simp)) (Nat.zero_le _) ?_
      intro i hi
      refine GO_AR mixed 1000 ?_
      by_cases hc : i < A.size
      · have hb1 : digB A[i] = true := List.all_eq_true.1 h5 _ (by rw [ByteArray.getElem_eq_getElem_data]; simp)
        have hb2 := of_decide_eq_true hb1
        have c1 : (48 : Int) ≤ (A[i].toNat : Int) := by omega
        have c2 : (A[i].toNat : Int) ≤ 57 := by omega
        have hdb := digF_bd (A.data.toList.take i) fun b hb => List.all_eq_true.1 h5 b (List.mem_of_mem_take hb)
        have hp10 : (10 : Int) ^ (A.data.toList.take i).length ≤ 10 ^ 10 := by
          have : (List.take i A.data.toList).length ≤ 10 := by rw [List.length_take]; omega
          exact_mod_cast Nat.pow_le_pow_right (show 0 < 10 by omega) this
        have hsn : digF (A.data.toList.take (i + 1)) = 10 * digF (A.data.toList.take i) + ((A[i].toNat : Int) - 48) := by
          rw [← digF_snoc, List.take_succ_eq_append_getElem (by simpa using hc)]
          congr 2
        generalize digF (A.data.toList.take i) = v at *
        have w1 : IntKind.i64.wrap (10 * v) = 10 * v := wrapI (by omega) (by omega)
        have w2 : IntKind.u8.wrap ((A[i].toNat : Int) - 48) = (A[i].toNat : Int) - 48 := wrapU (by omega) (by omega)
        have w3 : IntKind.i64.wrap ((A[i].toNat : Int) - 48) = (A[i].toNat : Int) - 48 := wrapI (by omega) (by omega)
        have w4 : IntKind.i64.wrap (10 * v + ((A[i].toNat : Int) - 48)) = 10 * v + ((A[i].toNat : Int) - 48) := wrapI (by omega) (by omega)
        have w5 : IntKind.i64.wrap ((i : Int) + 1) = ((i + 1 : Nat) : Int) := wrapI (by omega) (by omega)
        simp -implicitDefEqProofs [hc, c1, c2, w1, w2, w3, w4, w5]
        exact ⟨i + 1, Weak.tm (by simp [lk, hsn]), hc, by show A.size - (i + 1) < A.size - i; omega⟩
      · have hall : A.data.toList.take i = A.data.toList := List.take_of_length_le (by have : A.data.toList.length = A.size := rfl; omega)
        simp -implicitDefEqProofs [hc, hall]
        refine GO_ret mixed 1000 ?_
        simp -implicitDefEqProofs [h]

/-- What a number with its sign reads. -/
def devV (bh : Nat) (s : ByteArray) : Option Int :=
  match s.data.toList with
  | [] => none
  | b :: _ => if b = 43 then numV bh (s.extract 1 s.size) else if b = 45 then (match numV bh (s.extract 1 s.size) with
    | some n => if 0 < n then some (-n) else none
    | none => none) else none

theorem numV_bd {bh : Nat} (hb : bh ≤ 4) {s : ByteArray} {n : Int} (h : numV bh s = some n) : 0 ≤ n ∧ n ≤ 10000000000 := by
  unfold numV at h
  split at h
  case isFalse => cases h
  case isTrue hc =>
    obtain ⟨h0, h1, h2, h3, h4, h5⟩ := hc
    simp only [Option.some.injEq] at h
    have hd := digF_bd _ fun b hb => List.all_eq_true.1 h5 b hb
    have hl : ((cutV s).1.data.toList ++ (cutV s).2.1.data.toList).length ≤ 10 := by
      have e1 : (cutV s).1.data.toList.length = (cutV s).1.size := rfl
      have e2 : (cutV s).2.1.data.toList.length = (cutV s).2.1.size := rfl
      rw [List.length_append]; omega
    have hp : (10 : Int) ^ ((cutV s).1.data.toList ++ (cutV s).2.1.data.toList).length ≤ 10 ^ 10 := by
      exact_mod_cast Nat.pow_le_pow_right (show 0 < 10 by omega) hl
    omega

theorem deviation_pc (hg : Gs G) (st : Int) (bh : Nat) (nm : ByteArray) (f : FuncId) (hb : bh ≤ 4) (s : ByteArray) (hs : s.size < 4294967281) (n : Int) (h : devV bh s = some n) :
    PC Tryd.prog G 71 [.agg [.int .i64 st, .int .i64 bh, .str nm, .func (.func f) [] []], .str s] (.int .i64 n) := by
  have hx : (s.extract 1 s.size).size < 4294967281 := by rw [ByteArray.size_extract]; omega
  unfold devV at h
  split at h
  · cases h
  · rename_i b r hl
    have h0 : 0 < s.size := by
      have : s.size = s.data.toList.length := rfl
      rw [this, hl]; simp
    have hb0 : s[0] = b := by
      have e : s.data.toList[0]? = some b := by rw [hl]; rfl
      have : 0 < s.data.size := h0
      rw [Array.getElem?_toList, Array.getElem?_eq_getElem this] at e
      rw [ByteArray.getElem_eq_getElem_data]
      exact Option.some.inj e
    have h1 : 1 ≤ s.size := h0
    have h0' : (0 : Int) < s.size := by omega
    (refine pc_size_unit_deviation (Nat.le_of_ble_eq_true rfl) fun R hG => GO_AR mixed 1000 ?_; subst hG)
    split at h
    · rename_i e
      subst e
      have hb1 : ((s[0].toNat : Nat) : Int) = 43 := by rw [hb0]; rfl
      simp -implicitDefEqProofs [rc_size_unit_deviation, rr_size_unit_deviation, h0, h0', hb1]
      (first | refine CallK.of (must_pc) (by simp) ?_ | refine CallD.of (must_pc) (by simp) ?_)
      simp -implicitDefEqProofs [h0, h0', h1, hb1]
      (first | refine CallK.of (number_pc hg st bh nm f hb _ hx n h) (by simp) ?_ | refine CallD.of (number_pc hg st bh nm f hb _ hx n h) (by simp) ?_)
      simp -implicitDefEqProofs [h0, h0', hb1]
      rfl
    · split at h
      · rename_i e
        subst e
        have hb1 : ((s[0].toNat : Nat) : Int) = 45 := by rw [hb0]; rfl
        split at h <;> try (cases h; done)
        rename_i m hm
        split at h <;> simp only [Option.some.injEq, reduceCtorEq] at h
        rename_i hp
        have hbd := numV_bd hb hm
        have w1 : IntKind.i64.wrap (-m) = n := by rw [wrapI (by omega) (by omega)]; exact h
        simp -implicitDefEqProofs [rc_size_unit_deviation, rr_size_unit_deviation, h0, h0', hb1]
        (first | refine CallK.of (must_pc) (by simp) ?_ | refine CallD.of (must_pc) (by simp) ?_)
        simp -implicitDefEqProofs [h0, h0', h1, hb1]
        (first | refine CallK.of (number_pc hg st bh nm f hb _ hx m hm) (by simp) ?_ | refine CallD.of (number_pc hg st bh nm f hb _ hx m hm) (by simp) ?_)
        simp -implicitDefEqProofs [h0, h0', hb1, hp, w1]
        refine ⟨rfl, ?_⟩
        (first | refine CallK.of (must_pc) (by simp) ?_ | refine CallD.of (must_pc) (by simp) ?_)
        simp -implicitDefEqProofs [w1]
      · cases h
end
end Go.Proofs.YtikjooemblpnbaaDoor
