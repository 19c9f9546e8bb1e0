/-
  What is written is read, and what is read is written: the plain law of texts.
-/
import Derived.Test.YtikjooemblpnbaaDoorRs
namespace Go.Proofs.YtikjooemblpnbaaDoor
open Go.RowKit

/-! ### Words. -/
def wrd : List UInt8 → List (List UInt8)
  | [] => [[]]
  | b :: l => if b = 32 then [] :: wrd l else match wrd l with
    | w :: ws => (b :: w) :: ws
    | [] => [[b]]
theorem wrd_ne (l : List UInt8) : wrd l ≠ [] := by
  cases l with
  | nil => simp [wrd]
  | cons b l =>
    simp only [wrd]
    split
    · simp
    · split <;> simp

theorem split_wrd : ∀ s : List UInt8, Lib.splitK [32] 0 (Lib.count s [32]) s = wrd s
  | [] => by rw [Lib.count_miss (by simp [Lib.index])]; rfl
  | b :: l => by
    have ih := split_wrd l
    by_cases h : b = 32
    · subst h
      rw [Lib.count_cons_eq, Nat.add_comm]
      have hix : Lib.index ((32 : UInt8) :: l) [32] = 0 := by rw [Lib.index]; simp [List.isPrefixOf]
      simp only [Lib.splitK, hix, wrd, if_true]
      simp [ih]
    · have hp : ([32] : List UInt8).isPrefixOf (b :: l) = false := by simp [List.isPrefixOf, Ne.symm h]
      have hix : Lib.index (b :: l) [32] = if Lib.index l [32] == -1 then -1 else Lib.index l [32] + 1 := by rw [Lib.index, hp]; simp
      rw [Lib.count_cons_ne b 32 l h]
      simp only [wrd, h, if_false]
      by_cases hm : Lib.index l [32] = -1
      · have hc : Lib.count l [32] = 0 := Lib.count_miss hm
        rw [hc] at ih ⊢
        simp only [Lib.splitK] at ih ⊢
        rw [← ih]
      · have hge := Lib.index_ge l [32]
        obtain ⟨j, hj⟩ : ∃ j : Nat, Lib.index l [32] = j := ⟨(Lib.index l [32]).toNat, by omega⟩
        have hc := Lib.count_hit (s := l) (sub := [32]) (by simp) hj
        rw [hc, Nat.add_comm] at ih ⊢
        have hm' : ¬ (Lib.index l [32] == -1) = true := by simpa using hm
        have hm2 : ¬ (Lib.index (b :: l) [32] == -1) = true := by rw [hix, if_neg hm', hj]; simp; omega
        have e2 : (Lib.index (b :: l) [32]).toNat = j + 1 := by rw [hix, if_neg hm', hj]; omega
        simp only [Lib.splitK, hm', if_false, hj, Int.toNat_natCast] at ih
        simp only [Lib.splitK, hm2, if_false, e2]
        rw [← ih]
        simp

def joinW : List (List UInt8) → List UInt8
  | [] => []
  | [w] => w
  | w :: ws => w ++ 32 :: joinW ws
theorem joinW_wrd : ∀ s : List UInt8, joinW (wrd s) = s
  | [] => rfl
  | b :: l => by
    have ih := joinW_wrd l
    simp only [wrd]
    split
    · rename_i h
      subst h
      cases e : wrd l with
      | nil => exact absurd e (wrd_ne l)
      | cons w ws => rw [← ih, e]; rfl
    · cases e : wrd l with
      | nil => exact absurd e (wrd_ne l)
      | cons w ws =>
        rw [e] at ih
        simp only
        cases ws with
        | nil => simp only [joinW] at ih ⊢; rw [ih]
        | cons x xs => simp only [joinW] at ih ⊢; rw [← ih]; rfl
theorem wrd_end : ∀ w : List UInt8, 32 ∉ w → wrd w = [w]
  | [], _ => rfl
  | b :: l, h => by
    have h1 : ¬ b = 32 := fun e => h (by rw [e]; exact List.mem_cons_self)
    simp only [wrd, h1, if_false, wrd_end l (fun e => h (List.mem_cons_of_mem _ e))]
theorem wrd_app : ∀ (w r : List UInt8), 32 ∉ w → wrd (w ++ 32 :: r) = w :: wrd r
  | [], r, _ => by simp [wrd]
  | b :: l, r, h => by
    have h1 : ¬ b = 32 := fun e => h (by rw [e]; exact List.mem_cons_self)
    simp only [List.cons_append, wrd, h1, if_false, wrd_app l r (fun e => h (List.mem_cons_of_mem _ e))]

theorem words_data (s : ByteArray) : (wordsV s).map (·.data.toList) = wrd s.data.toList := by
  rw [wordsV, Lib.splitB_data, ← split_wrd]
  rfl

theorem ba_ext {a b : ByteArray} (h : a.data.toList = b.data.toList) : a = b := by
  cases a; cases b
  simp only [ByteArray.mk.injEq]
  exact Array.toList_inj.1 h

theorem jn_data (a b c d : ByteArray) : (jn a b c d).data.toList = a.data.toList ++ 32 :: (b.data.toList ++ 32 :: (c.data.toList ++ 32 :: d.data.toList)) := by
  simp [jn, sp1, ByteArray.data_append]

theorem words_four {s w0 w1 w2 w3 : ByteArray} (h : wordsV s = [w0, w1, w2, w3]) : s = jn w0 w1 w2 w3 := by
  have h1 := words_data s
  rw [h] at h1
  refine ba_ext ?_
  rw [jn_data, ← joinW_wrd s.data.toList, ← h1]
  rfl
theorem words_jn {w0 w1 w2 w3 : ByteArray} (h0 : 32 ∉ w0.data.toList) (h1 : 32 ∉ w1.data.toList) (h2 : 32 ∉ w2.data.toList) (h3 : 32 ∉ w3.data.toList) : wordsV (jn w0 w1 w2 w3) = [w0, w1, w2, w3] := by
  have hd := words_data (jn w0 w1 w2 w3)
  rw [jn_data, wrd_app _ _ h0, wrd_app _ _ h1, wrd_app _ _ h2, wrd_end _ h3] at hd
  match e : wordsV (jn w0 w1 w2 w3), hd with
  | [a, b, c, d], hd =>
    simp only [List.map_cons, List.map_nil, List.cons.injEq, and_true] at hd
    rw [ba_ext hd.1, ba_ext hd.2.1, ba_ext hd.2.2.1, ba_ext hd.2.2.2]
  | [], hd => simp at hd
  | [a], hd => simp at hd
  | [a, b], hd => simp at hd
  | [a, b, c], hd => simp at hd
  | a :: b :: c :: d :: e :: r, hd => simp at hd

/-! ### Digits. -/
def dU (least n : Nat) : List UInt8 := (dg least n).map fun n => UInt8.ofNat n.toNat

theorem dU_zero : dU 0 0 = [] := by rw [dU, dg_zero]; rfl
theorem dU_step (least n : Nat) (h : 0 < n ∨ 0 < least) : dU least n = dU (least - 1) (n / 10) ++ [UInt8.ofNat (48 + n % 10)] := by
  rw [dU, dg, if_pos h, List.map_append]; rfl

theorem ofNat_dig (k : Nat) (h : k < 10) : (UInt8.ofNat (48 + k)).toNat = 48 + k := by rw [UInt8.toNat_ofNat']; omega

theorem dU_facts (least n : Nat) : digF (dU least n) = n ∧ (∀ b ∈ dU least n, digB b = true) ∧ least ≤ (dU least n).length ∧ ((dU least n).length = least ∨ (dU least n).head? ≠ some 48) ∧ (∀ m, least ≤ m → n < 10 ^ m → (dU least n).length ≤ m) := by
  induction least, n using dg.induct with
  | case1 least n h ih =>
    obtain ⟨i1, i2, i3, i4, i5⟩ := ih
    have hd := ofNat_dig (n % 10) (by omega)
    rw [dU_step least n h]
    refine ⟨?_, ?_, ?_, ?_, ?_⟩
    · rw [digF_snoc, i1, hd]; omega
    · intro b hb
      rcases List.mem_append.1 hb with hb | hb
      · exact i2 b hb
      · rw [List.mem_singleton.1 hb]; exact decide_eq_true (by omega)
    · rw [List.length_append, List.length_singleton]; omega
    · cases e : dU (least - 1) (n / 10) with
      | cons x xs =>
        rw [e] at i4
        simp only [List.length_append, List.length_singleton, List.cons_append, List.head?_cons] at i4 ⊢
        rcases i4 with i4 | i4
        · by_cases hl : least = 0
          · subst hl; simp at i4
          · left; simp at i4 ⊢; omega
        · exact .inr i4
      | nil =>
        rw [e] at i3 i1
        simp only [List.length_nil] at i3
        simp only [List.nil_append, List.length_singleton, List.head?_cons]
        by_cases hl : least = 1
        · exact .inl hl.symm
        · right
          have h0 : least = 0 := by omega
          have hn : 0 < n := by omega
          have hz : n / 10 = 0 := by simp [digF] at i1; omega
          intro e2
          have := congrArg UInt8.toNat (Option.some.inj e2)
          rw [hd] at this
          have h48 : (48 : UInt8).toNat = 48 := rfl
          omega
    · intro m hm hn
      rw [List.length_append, List.length_singleton]
      cases m with
      | zero => simp at hn; omega
      | succ m =>
        have := i5 m (by omega) (by rw [Nat.pow_succ] at hn; omega)
        omega
  | case2 least n h =>
    obtain rfl : n = 0 := by omega
    obtain rfl : least = 0 := by omega
    rw [dU_zero]
    simp [digF]

theorem digF_pos : ∀ (E : List UInt8) (b : UInt8), (∀ x ∈ b :: E, digB x = true) → b ≠ 48 → 0 < digF (b :: E) := by
  have gen : ∀ (k : Nat) (E : List UInt8) (b : UInt8), E.length = k → (∀ x ∈ b :: E, digB x = true) → b ≠ 48 → 0 < digF (b :: E) := by
    intro k
    induction k with
    | zero =>
      intro E b hl h hb
      rw [List.length_eq_zero_iff.1 hl]
      have h1 := of_decide_eq_true (h b (by simp))
      have : b.toNat ≠ 48 := fun e => hb (UInt8.toNat.inj (by rw [e]; rfl))
      simp [digF]; omega
    | succ k ih =>
      intro E b hl h hb
      have hne : E ≠ [] := by rintro rfl; simp at hl
      have := ih E.dropLast b (by simp [hl]) (fun x hx => h x (by
        rcases List.mem_cons.1 hx with rfl | hx
        · exact List.mem_cons_self
        · exact List.mem_cons_of_mem _ ((List.dropLast_sublist E).subset hx))) hb
      have h3 := of_decide_eq_true (h (E.getLast hne) (List.mem_cons_of_mem _ (List.getLast_mem hne)))
      rw [← List.dropLast_concat_getLast hne, ← List.cons_append, digF_snoc]
      omega
  exact fun E b h hb => gen _ E b rfl h hb

theorem dU_of : ∀ (k : Nat) (E : List UInt8) (least : Nat), E.length = k → (∀ b ∈ E, digB b = true) → least ≤ E.length → (E.length = least ∨ E.head? ≠ some 48) → dU least (digF E).toNat = E := by
  intro k
  induction k with
  | zero =>
    intro E least hl _ h1 _
    obtain rfl := List.length_eq_zero_iff.1 hl
    obtain rfl : least = 0 := by simpa using h1
    exact dU_zero
  | succ k ih =>
    intro E least hl hd h1 h2
    have hne : E ≠ [] := by rintro rfl; simp at hl
    obtain ⟨E', b, rfl⟩ : ∃ E' b, E = E' ++ [b] := ⟨_, _, (List.dropLast_concat_getLast hne).symm⟩
    have hd' : ∀ x ∈ E', digB x = true := fun x hx => hd x (List.mem_append_left _ hx)
    have hb := of_decide_eq_true (hd b (by simp))
    have hp := digF_bd E' hd'
    simp only [List.length_append, List.length_singleton] at hl h1 h2
    have hn : digF (E' ++ [b]) = 10 * digF E' + ((b.toNat : Int) - 48) := digF_snoc _ _
    have hpos : 0 < (digF (E' ++ [b])).toNat ∨ 0 < least := by
      by_cases hl0 : least = 0
      · left
        cases e : E' ++ [b] with
        | nil => simp at e
        | cons x xs =>
          have : x ≠ 48 := by
            rcases h2 with h2 | h2
            · omega
            · rw [e] at h2; simpa using h2
          have := digF_pos xs x (by rw [← e]; exact hd) this
          omega
      · omega
    rw [dU_step _ _ hpos]
    have q1 : (digF (E' ++ [b])).toNat / 10 = (digF E').toNat := by omega
    have q2 : (digF (E' ++ [b])).toNat % 10 = b.toNat - 48 := by omega
    rw [q1, q2]
    have q3 : UInt8.ofNat (48 + (b.toNat - 48)) = b := UInt8.toNat.inj (by rw [ofNat_dig _ (by omega)]; omega)
    rw [q3, ih E' (least - 1) (by omega) hd' (by omega) ?_]
    rcases h2 with h2 | h2
    · left; omega
    · cases E' with
      | nil => left; simp at h1 ⊢; omega
      | cons x xs => right; simpa using h2

/-! ### Numbers. -/
theorem wnS_data (bh n : Nat) : (wnS bh n).data.toList = (dU (bh + 1) n).take ((dU (bh + 1) n).length - bh) ++ 46 :: (dU (bh + 1) n).drop ((dU (bh + 1) n).length - bh) := by
  have e : (dU (bh + 1) n).length = (dg (bh + 1) n).length := by simp [dU]
  rw [e]
  simp [wnS, strOfNums, ByteArray.data_append, dU, List.map_take, List.map_drop]

theorem index_dot : ∀ (w p : List UInt8), 46 ∉ w → Lib.index (w ++ 46 :: p) [46] = w.length
  | [], p, _ => by rw [List.nil_append, Lib.index]; simp [List.isPrefixOf]
  | b :: w, p, h => by
    have h1 : ¬ b = 46 := fun e => h (by rw [e]; exact List.mem_cons_self)
    have hp : ([46] : List UInt8).isPrefixOf (b :: (w ++ 46 :: p)) = false := by simp [List.isPrefixOf, Ne.symm h1]
    rw [List.cons_append, Lib.index, hp, index_dot w p (fun e => h (List.mem_cons_of_mem _ e))]
    have : ((w.length : Int) == -1) = false := by rw [beq_eq_false_iff_ne]; omega
    simp [this]

theorem cutV_app {s : ByteArray} {w p : List UInt8} (h : s.data.toList = w ++ 46 :: p) (hw : 46 ∉ w) : cutV s = (⟨w.toArray⟩, ⟨p.toArray⟩, true) := by
  have hc : Lib.cut s.data.toList [46] = (w, p, true) := by
    rw [Lib.cut, h, index_dot w p hw, if_pos (by omega)]
    simp
  rw [cutV, hc]

theorem cutV_of {s : ByteArray} (h : (cutV s).2.2 = true) : s.data.toList = (cutV s).1.data.toList ++ 46 :: (cutV s).2.1.data.toList := by
  simp only [cutV, Lib.cut] at h ⊢
  by_cases h0 : 0 ≤ Lib.index s.data.toList [46]
  · rw [if_pos h0]
    simp only
    rcases Lib.index_spec s.data.toList [46] with ⟨h1, _⟩ | ⟨i, h1, h2, h3, _⟩
    · omega
    · rw [h1]
      simp only [Int.toNat_natCast, List.length_singleton]
      unfold Lib.occAt at h3
      have hd : s.data.toList.drop i = 46 :: s.data.toList.drop (i + 1) := by
        cases e : s.data.toList.drop i with
        | nil => rw [e] at h3; simp [List.isPrefixOf] at h3
        | cons b r =>
          rw [e] at h3
          simp only [List.isPrefixOf, Bool.and_true, beq_iff_eq] at h3
          rw [← h3, ← List.drop_drop, e]; rfl
      rw [← hd, List.take_append_drop]
  · rw [if_neg h0] at h; simp at h

theorem dot_dig {l : List UInt8} (h : ∀ b ∈ l, digB b = true) : 46 ∉ l := fun e => by
  have := of_decide_eq_true (h _ e)
  have h46 : (46 : UInt8).toNat = 46 := rfl
  omega
theorem sp_dig {l : List UInt8} (h : ∀ b ∈ l, digB b = true) : 32 ∉ l := fun e => by
  have := of_decide_eq_true (h _ e)
  have h46 : (32 : UInt8).toNat = 32 := rfl
  omega

theorem num_wn (bh n : Nat) (hn : n < 10 ^ (bh + 6)) : numV bh (wnS bh n) = some (n : Int) := by
  obtain ⟨f1, f2, f3, f4, f5⟩ := dU_facts (bh + 1) n
  have f6 := f5 (bh + 6) (by omega) hn
  have hw := wnS_data bh n
  generalize dU (bh + 1) n = D at *
  have ht : ∀ b ∈ D.take (D.length - bh), digB b = true := fun b hb => f2 b (List.mem_of_mem_take hb)
  have hc := cutV_app hw (dot_dig ht)
  unfold numV
  rw [hc]
  simp only
  have hl1 : (⟨(D.take (D.length - bh)).toArray⟩ : ByteArray).size = D.length - bh := by show (D.take (D.length - bh)).toArray.size = _; rw [List.size_toArray, List.length_take]; omega
  have hl2 : (⟨(D.drop (D.length - bh)).toArray⟩ : ByteArray).size = bh := by show (D.drop (D.length - bh)).toArray.size = _; rw [List.size_toArray, List.length_drop]; omega
  rw [hl1, hl2, List.take_append_drop, f1]
  refine if_pos ⟨trivial, rfl, by omega, by omega, ?_, List.all_eq_true.2 f2⟩
  rcases f4 with f4 | f4
  · right; omega
  · left
    cases D with
    | nil => simp at f3
    | cons x xs =>
      cases e : (x :: xs).length - bh with
      | zero => omega
      | succ m => simpa using f4

theorem num_of {bh : Nat} {s : ByteArray} {z : Int} (h : numV bh s = some z) : s = wnS bh z.toNat ∧ 0 ≤ z := by
  unfold numV at h
  split at h
  case isFalse => cases h
  case isTrue hc =>
    obtain ⟨h0, h1, h2, h3, h4, h5⟩ := hc
    simp only [Option.some.injEq] at h
    have hs := cutV_of h0
    generalize cutV s = c at *
    obtain ⟨w, p, is⟩ := c
    simp only at h h0 h1 h2 h3 h4 h5 hs
    have h5' := List.all_eq_true.1 h5
    have ew : w.data.toList.length = w.size := rfl
    have ep : p.data.toList.length = p.size := rfl
    have hne : w.data.toList ≠ [] := by intro e; rw [e] at ew; simp at ew; omega
    have hD := dU_of _ (w.data.toList ++ p.data.toList) (bh + 1) rfl h5' (by rw [List.length_append]; omega) (by
      rcases h4 with h4 | h4
      · right
        cases e : w.data.toList with
        | nil => exact absurd e hne
        | cons x xs => rw [e] at h4; simpa using h4
      · left; rw [List.length_append]; omega)
    rw [h] at hD
    refine ⟨ba_ext ?_, by rw [← h]; exact (digF_bd _ h5').1⟩
    rw [wnS_data, hD, hs]
    have el : (w.data.toList ++ p.data.toList).length - bh = w.data.toList.length := by rw [List.length_append]; omega
    rw [el, List.take_left, List.drop_left]

theorem wnS_bytes (bh n : Nat) : ∀ b ∈ (wnS bh n).data.toList, digB b = true ∨ b = 46 := by
  obtain ⟨f1, f2, f3, f4, f5⟩ := dU_facts (bh + 1) n
  rw [wnS_data]
  intro b hb
  rcases List.mem_append.1 hb with hb | hb
  · exact .inl (f2 b (List.mem_of_mem_take hb))
  · rcases List.mem_cons.1 hb with rfl | hb
    · exact .inr rfl
    · exact .inl (f2 b (List.mem_of_mem_drop hb))
theorem wnS_sp (bh n : Nat) : 32 ∉ (wnS bh n).data.toList := fun h => by
  rcases wnS_bytes bh n _ h with h | h
  · have := of_decide_eq_true h
    have h32 : (32 : UInt8).toNat = 32 := rfl
    omega
  · exact absurd h (by decide)
theorem sgS_data (bh : Nat) (z : Int) : (sgS bh z).data.toList = (if z < 0 then 45 else 43) :: (wnS bh (if z < 0 then (-z).toNat else z.toNat)).data.toList := by
  unfold sgS
  split <;> simp [ByteArray.data_append]
theorem sgS_sp (bh : Nat) (z : Int) : 32 ∉ (sgS bh z).data.toList := fun h => by
  rw [sgS_data] at h
  rcases List.mem_cons.1 h with h | h
  · split at h <;> exact absurd h (by decide)
  · exact wnS_sp _ _ h

theorem extract_one {s : ByteArray} {b : UInt8} {r : List UInt8} (h : s.data.toList = b :: r) : (s.extract 1 s.size).data.toList = r := by
  rw [Lib.extract_to_end, h]; rfl

theorem dev_sg (bh : Nat) (z : Int) (hz : z.natAbs < 10 ^ (bh + 6)) : devV bh (sgS bh z) = some z := by
  have hd := sgS_data bh z
  have hx := extract_one hd
  have he : (sgS bh z).extract 1 (sgS bh z).size = wnS bh (if z < 0 then (-z).toNat else z.toNat) := ba_ext hx
  unfold devV
  rw [hd, he]
  by_cases c : z < 0
  · simp only [c, if_true]
    rw [if_neg (by decide), num_wn bh _ (by omega)]
    simp only
    rw [if_pos (by omega)]
    congr 1; omega
  · simp only [c, if_false, if_true]
    rw [num_wn bh _ (by omega)]
    congr 1; omega

theorem dev_of {bh : Nat} {s : ByteArray} {z : Int} (h : devV bh s = some z) : s = sgS bh z := by
  unfold devV at h
  split at h
  · cases h
  · rename_i b r hl
    have hx := extract_one hl
    refine ba_ext ?_
    rw [sgS_data, hl]
    split at h
    · rename_i e
      subst e
      obtain ⟨g1, g2⟩ := num_of h
      rw [g1] at hx
      have c : ¬ z < 0 := by omega
      simp only [c, if_false]
      rw [hx]
    · split at h
      · rename_i e
        subst e
        split at h <;> try (cases h; done)
        rename_i m hm
        split at h <;> simp only [Option.some.injEq, reduceCtorEq] at h
        obtain ⟨g1, g2⟩ := num_of hm
        rw [g1] at hx
        have c : z < 0 := by omega
        simp only [c, if_true]
        rw [← h, Int.neg_neg, hx]
      · cases h

/-! ### Sizes. -/
theorem nm_sp (k : Int) : 32 ∉ (nmV k).data.toList := by unfold nmV; split <;> decide
theorem nm_mm : nmV 1 = nameMm := rfl
theorem nm_in : nmV 2 = nameIn := rfl
theorem in_ne : ¬ nameIn = nameMm := fun e => absurd (congrArg (fun b : ByteArray => b.data.toList) e) (by decide)

/-- What is written is read. -/
theorem readV_wr (d : Dm) (k : Int) (hk : k = 1 ∨ k = 2) (hv : vd d = true) (hx : exa d (stp k) = true) : readV (wrV d k) = some (d, k) := by
  obtain ⟨x0, x1, x2, x3, x4⟩ := of_decide_eq_true hv
  obtain ⟨y0, y1, y2⟩ := of_decide_eq_true hx
  have hw : wordsV (wrV d k) = [_, _, _, _] := words_jn (wnS_sp _ _) (sgS_sp _ _) (sgS_sp _ _) (nm_sp k)
  have u : rdU k (wnS (bhV k) (d.n / stp k).toNat) (sgS (bhV k) ((d.l - d.n).tdiv (stp k))) (sgS (bhV k) ((d.u - d.n).tdiv (stp k))) = some (d, k) := by
    have hs : stp k = 100 ∧ bhV k = 3 ∨ stp k = 254 ∧ bhV k = 4 := by rcases hk with rfl | rfl <;> simp [stp, bhV]
    have t1 : ∀ a : Int, -1000000000 ≤ a → a ≤ 1000000000 → a % stp k = 0 → (a.tdiv (stp k)).natAbs < 10000001 ∧ a.tdiv (stp k) * stp k = a := fun a q0 q1 q2 => by
      have hdv : stp k ∣ a := Int.dvd_of_emod_eq_zero q2
      have e : a.tdiv (stp k) = a / stp k := Int.tdiv_eq_ediv_of_dvd hdv
      rw [e]
      rcases hs with ⟨h, -⟩ | ⟨h, -⟩ <;> rw [h] at q2 ⊢ <;> omega
    have hn : (d.n / stp k).toNat < 10000001 ∧ ((d.n / stp k).toNat : Int) * stp k = d.n := by
      rcases hs with ⟨h, -⟩ | ⟨h, -⟩ <;> rw [h] at y0 ⊢ <;> omega
    have hl := t1 (d.l - d.n) (by omega) (by omega) (by rcases hs with ⟨h, -⟩ | ⟨h, -⟩ <;> rw [h] at y0 y1 ⊢ <;> omega)
    have hu := t1 (d.u - d.n) (by omega) (by omega) (by rcases hs with ⟨h, -⟩ | ⟨h, -⟩ <;> rw [h] at y0 y2 ⊢ <;> omega)
    have hp : 10000001 ≤ 10 ^ (bhV k + 6) := by rcases hs with ⟨-, h⟩ | ⟨-, h⟩ <;> rw [h] <;> decide
    simp only [rdU]
    rw [num_wn _ _ (by omega), dev_sg _ _ (by omega), dev_sg _ _ (by omega)]
    have e : rdD k ((d.n / stp k).toNat : Int) ((d.l - d.n).tdiv (stp k)) ((d.u - d.n).tdiv (stp k)) = d := by
      simp only [rdD, Int.add_mul, hn.2, hl.2, hu.2]
      exact Dm.ext rfl (by simp only; omega) (by simp only; omega)
    simp only [e, hv, if_true]
  unfold readV
  rw [hw]
  rcases hk with rfl | rfl
  · simp only [nm_mm, if_true]; exact u
  · simp only [nm_in, in_ne, if_false, if_true]; exact u

/-- What is read is written. -/
theorem wr_readV {s : ByteArray} {d : Dm} {k : Int} (h : readV s = some (d, k)) : (k = 1 ∨ k = 2) ∧ vd d = true ∧ exa d (stp k) = true ∧ s = wrV d k ∧
    ∃ w0 w1 w2 n a b, wordsV s = [w0, w1, w2, nmV k] ∧ numV (bhV k) w0 = some n ∧ devV (bhV k) w1 = some a ∧ devV (bhV k) w2 = some b ∧ d = rdD k n a b := by
  have u : ∀ (q : Int) (w0 w1 w2 : ByteArray), (q = 1 ∨ q = 2) → wordsV s = [w0, w1, w2, nmV q] → rdU q w0 w1 w2 = some (d, k) → (k = 1 ∨ k = 2) ∧ vd d = true ∧ exa d (stp k) = true ∧ s = wrV d k ∧
      ∃ w0 w1 w2 n a b, wordsV s = [w0, w1, w2, nmV k] ∧ numV (bhV k) w0 = some n ∧ devV (bhV k) w1 = some a ∧ devV (bhV k) w2 = some b ∧ d = rdD k n a b := fun q w0 w1 w2 hq hw hr => by
    unfold rdU at hr
    split at hr <;> try (cases hr; done)
    rename_i n a b hn ha hb
    split at hr <;> try (cases hr; done)
    rename_i hv
    simp only [Option.some.injEq, Prod.mk.injEq] at hr
    obtain ⟨rfl, rfl⟩ := hr
    obtain ⟨n1, n0⟩ := num_of hn
    have hs : stp q = 100 ∨ stp q = 254 := by rcases hq with rfl | rfl <;> simp [stp]
    have hs0 : stp q ≠ 0 := by omega
    refine ⟨hq, hv, decide_eq_true ⟨Int.mul_emod_left _ _, Int.mul_emod_left _ _, Int.mul_emod_left _ _⟩, ?_, w0, w1, w2, n, a, b, hw, hn, ha, hb, rfl⟩
    have e1 : (rdD q n a b).n / stp q = n := Int.mul_ediv_cancel _ hs0
    have e2 : ((rdD q n a b).l - (rdD q n a b).n).tdiv (stp q) = a := by
      have : (rdD q n a b).l - (rdD q n a b).n = a * stp q := by simp only [rdD, Int.add_mul]; omega
      rw [this, Int.mul_tdiv_cancel _ hs0]
    have e3 : ((rdD q n a b).u - (rdD q n a b).n).tdiv (stp q) = b := by
      have : (rdD q n a b).u - (rdD q n a b).n = b * stp q := by simp only [rdD, Int.add_mul]; omega
      rw [this, Int.mul_tdiv_cancel _ hs0]
    rw [words_four hw, wrV, e1, e2, e3, ← n1, ← dev_of ha, ← dev_of hb]
  unfold readV at h
  split at h
  · rename_i w0 w1 w2 w3 hw
    split at h
    · rename_i e; subst e
      exact u 1 w0 w1 w2 (.inl rfl) hw h
    · split at h
      · rename_i e; subst e
        exact u 2 w0 w1 w2 (.inr rfl) hw h
      · cases h
  · cases h
end Go.Proofs.YtikjooemblpnbaaDoor
