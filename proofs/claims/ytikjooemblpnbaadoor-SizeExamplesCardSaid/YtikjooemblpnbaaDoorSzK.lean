/-
  What in, Check and both of package size return: a closure handed to slices.ContainsFunc.
-/
import Derived.Test.YtikjooemblpnbaaDoorSzE
namespace Go.Proofs.YtikjooemblpnbaaDoor
open Go.RowKit

/-- A slice of numbers. -/
def SlI (W : World) (v : Value) (l : List Int) : Prop :=
  ∃ a cap, v = .slice a l.length cap ∧ l.length ≤ 9223372036854775807 ∧ (l ≠ [] → ∃ b off, a = some ⟨b, off, none⟩ ∧ b < W.heap.size ∧ ∀ i (h : i < l.length), W.cell? ⟨b, off + i, none⟩ = some (.int .i64 l[i]))

theorem SlI.ext {W W' : World} {v : Value} {l : List Int} (h : SlI W v l) (he : Ext W W') : SlI W' v l := by
  obtain ⟨a, cap, h1, hn, h2⟩ := h
  refine ⟨a, cap, h1, hn, fun hl => ?_⟩
  obtain ⟨b, off, h3, h4, h5⟩ := h2 hl
  exact ⟨b, off, h3, Nat.lt_of_lt_of_le h4 he.size, fun i hi => (he.cell (by exact h4)).trans (h5 i hi)⟩

theorem SlI.of_blk {W : World} {b : Nat} {l : List Int} {v : Value} (h : Blk W b (l.map (Value.int .i64)) 3) {cap : Nat} (hv : v = .slice (some ⟨b, 0, none⟩) l.length cap) (hn : l.length ≤ 9223372036854775807 := by simp) : SlI W v l :=
  ⟨_, _, hv, hn, fun _ => ⟨b, 0, rfl, h.lt, fun i hi => by rw [h.cell]; simp [hi]⟩⟩

theorem inC_any (n lo hi : Int) (b c : Nat) (w : World) (hb : w.cell? ⟨b, 0, none⟩ = some (.int .i64 lo)) (hc : w.cell? ⟨c, 0, none⟩ = some (.int .i64 hi)) :
    Calls Tryd.prog 81 #[.int .i64 n, .pointer (some ⟨b, 0, none⟩), .pointer (some ⟨c, 0, none⟩)] w fun e w' => e = .returned (.bool (decide (n < lo ∨ hi < n))) ∧ w = w' := by
  go_enter Tryd.func81, Tryd.ntmps81
  go_wp2_with fail
  all_goals (go_ret; exact ⟨ret_bool (by simp; try omega), rfl⟩)

/-- The first place of which p holds; -1. -/
def firstOf (p : Int → Bool) : List Int → Int → Int
  | [], _ => -1
  | x :: xs, k => if p x = true then k else firstOf p xs (k + 1)

theorem firstOf_any (p : Int → Bool) (l : List Int) : ∀ k, 0 ≤ k → decide (0 ≤ firstOf p l k) = l.any p := by
  induction l with
  | nil => intro k _; simp [firstOf]
  | cons x xs ih =>
    intro k hk
    unfold firstOf
    by_cases h : p x = true
    · simp [h, hk]
    · simp [h, ih (k + 1) (by omega)]

theorem firstOf_drop (p : Int → Bool) (l : List Int) (k : Nat) (h : k < l.length) : firstOf p (l.drop k) k = if p l[k] = true then (k : Int) else firstOf p (l.drop (k + 1)) ((k + 1 : Nat) : Int) := by
  rw [List.drop_eq_getElem_cons h]; simp [firstOf]

theorem indexI_any (g : Nat) (caps : Array Value) (p : Int → Bool) (v : Value) (l : List Int) (w : World) (hl : SlI w v l)
    (eg : ∀ (args : Array Value) (w : World), (callFunc g args).run Tryd.prog w = .ok (.enter g args) w)
    (hg : ∀ n, Calls Tryd.prog g (#[.int .i64 n] ++ caps) w fun e w' => e = .returned (.bool (p n)) ∧ w = w') :
    Calls Tryd.prog 93 #[v, .func (.func g) #[] caps] w fun e w' => e = .returned (.int .i64 (firstOf p l 0)) ∧ w = w' := by
  obtain ⟨xa, ca, rfl, hna, ha⟩ := hl
  have HG := Lib.hid hg
  clear hg
  go_enter Tryd.func93, Tryd.ntmps93
  go_wp2_with fail
  go_loop [8] (fun i => ∃ k : Nat, k ≤ l.length ∧ i = .int .i64 k ∧ Hid (firstOf p l 0 = firstOf p (l.drop k) k)) (fun i => l.length - (intOf i).toNat)
  case atStart => exact ⟨0, Nat.zero_le _, rfl, Lib.hid rfl⟩
  case round =>
    obtain ⟨k, hk, rfl, hfo⟩ := hrel
    by_cases hlt : k < l.length
    · obtain ⟨ba, oa, rfl, hba, hca⟩ := ha (by intro h; simp [h] at hlt)
      have hca1 := hca k hlt
      have hlt' : (k : Int) < (l.length : Int) := by omega
      have hfd := hfo.out
      rw [firstOf_drop p l k hlt] at hfd
      obtain ⟨x, hx⟩ : ∃ x, x = l[k] := ⟨_, rfl⟩
      rw [← hx] at hca1 hfd
      have HD := Lib.hid hfd
      clear hca ha hfd hx hfo
      go_wp2_with fail
      refine (HG.out x).mono ?_
      rintro e w' ⟨rfl, rfl⟩
      cases hp : p x
      · go_wp2_with fail
        go_round
        case rel => exact ⟨k + 1, by omega, by go_num, Lib.hid (by rw [HD.out, hp]; simp)⟩
        case measure => simp [intOf]; omega
      · go_wp2_with fail
        go_ret
        exact ⟨ret_int (by rw [HD.out, hp]; simp), rfl⟩
    · have hlt' : ¬ (k : Int) < (l.length : Int) := by omega
      go_wp2_with fail
      go_ret
      exact ⟨ret_int (by rw [hfo.out, List.drop_of_length_le (by omega)]; rfl), rfl⟩

/-- Of some number of a list p holds; a number is not from lo to hi; all numbers are. -/
def anyB (p : Int → Bool) (l : List Int) : Bool := l.any p
def outB (lo hi n : Int) : Bool := decide (n < lo ∨ hi < n)
def inB (lo hi : Int) (l : List Int) : Bool := !(anyB (outB lo hi) l)

theorem inB_one (lo hi x : Int) : inB lo hi [x] = decide (lo ≤ x ∧ x ≤ hi) := by
  rw [Bool.eq_iff_iff]; simp [inB, anyB, outB]; try omega
theorem inB_two (lo hi x y : Int) : inB lo hi [x, y] = decide (lo ≤ x ∧ x ≤ hi ∧ lo ≤ y ∧ y ≤ hi) := by
  rw [Bool.eq_iff_iff]; simp [inB, anyB, outB]; try omega
theorem inB_three (lo hi x y z : Int) : inB lo hi [x, y, z] = decide (lo ≤ x ∧ x ≤ hi ∧ lo ≤ y ∧ y ≤ hi ∧ lo ≤ z ∧ z ≤ hi) := by
  rw [Bool.eq_iff_iff]; simp [inB, anyB, outB]; try omega

theorem containsI_any (g : Nat) (caps : Array Value) (p : Int → Bool) (v : Value) (l : List Int) (w : World) (hl : SlI w v l)
    (eg : ∀ (args : Array Value) (w : World), (callFunc g args).run Tryd.prog w = .ok (.enter g args) w)
    (hg : ∀ n, Calls Tryd.prog g (#[.int .i64 n] ++ caps) w fun e w' => e = .returned (.bool (p n)) ∧ w = w') :
    Calls Tryd.prog 80 #[v, .func (.func g) #[] caps] w fun e w' => e = .returned (.bool (anyB p l)) ∧ w = w' := by
  have HG := Lib.hid hg
  have HL := Lib.hid hl
  have HF := Lib.hid (firstOf_any p l 0 (Int.le_refl _))
  have HE := Lib.hid eg
  clear hg hl eg
  go_enter Tryd.func80, Tryd.ntmps80
  go_wp2_with fail
  refine (indexI_any g caps p v l w HL.out HE.out HG.out).mono ?_
  rintro e w' ⟨rfl, rfl⟩
  go_wp2_with fail
  go_ret
  exact ⟨ret_bool HF.out, rfl⟩

theorem inS_any (lo hi : Int) (v : Value) (l : List Int) (w : World) (hl : SlI w v l) :
    Calls Tryd.prog 55 #[.int .i64 lo, .int .i64 hi, v] w fun e w' => e = .returned (.bool (inB lo hi l)) ∧ Ext w w' := by
  have HL := Lib.hid hl
  clear hl
  go_enter Tryd.func55, Tryd.ntmps55
  go_wp2_with fail
  obtain ⟨w1, hw1⟩ : ∃ w1, w1 = (w.alloc (.cells #[.int .i64 lo] 3)).alloc (.cells #[.int .i64 hi] 3) := ⟨_, rfl⟩
  have hE : Ext w w1 := by rw [hw1]; exact (Ext.refl w).al.al
  have h0 : Blk w1 w.heap.size [.int .i64 lo] 3 := by rw [hw1]; exact (Blk.new w _ _).alloc _
  have h1 : Blk w1 (w.heap.size + 1) [.int .i64 hi] 3 := by rw [hw1]; exact Blk.new' _ [.int .i64 hi] _ (by simp)
  rw [← hw1]
  refine (containsI_any 81 #[.pointer (some ⟨w.heap.size, 0, none⟩), .pointer (some ⟨w.heap.size + 1, 0, none⟩)] (outB lo hi) v l w1 (HL.out.ext hE) (fun args w => by kernel_rfl)
    (fun n => inC_any n lo hi _ _ w1 (h0.cell 0) (h1.cell 0))).mono ?_
  rintro e w2 ⟨rfl, rfl⟩
  clear hw1
  go_wp2_with fail
  go_ret
  exact ⟨rfl, hE⟩

theorem checkS_any (d : Dm) (w : World) :
    Calls Tryd.prog 39 #[.agg #[.int .i64 d.n, .int .i64 d.l, .int .i64 d.u]] w fun e w' => e = .returned (.int .i64 (chk d)) ∧ Ext w w' := by
  obtain ⟨n, l, u⟩ := d
  dsimp only
  go_enter Tryd.func39, Tryd.ntmps39
  go_wp2_with fail
  obtain ⟨w1, hw1⟩ : ∃ w1, w1 = (w.alloc (.cells #[.int .i64 n, .int .i64 l, .int .i64 u] 23)).alloc (.cells #[.int .i64 n, .int .i64 l, .int .i64 u] 3) := ⟨_, rfl⟩
  have hE : Ext w w1 := by rw [hw1]; exact (Ext.refl w).al.al
  have h0 : Blk w1 w.heap.size [.int .i64 n, .int .i64 l, .int .i64 u] 23 := by rw [hw1]; exact (Blk.new w _ _).alloc _
  have h1 : Blk w1 (w.heap.size + 1) [.int .i64 n, .int .i64 l, .int .i64 u] 3 := by rw [hw1]; exact Blk.new' _ [.int .i64 n, .int .i64 l, .int .i64 u] _ (by simp)
  rw [← hw1]
  clear hw1
  refine (inS_any 0 1000000000 _ [n, l, u] w1 (SlI.of_blk h1 (by rfl))).mono ?_
  rintro e w2 ⟨rfl, h2⟩
  obtain ⟨a0, a1, a2, -, -, -, a3⟩ := (h0.ext h2).three
  cases hi : inB 0 1000000000 [n, l, u]
  · go_wp2_with fail
    go_ret
    refine ⟨ret_int ?_, hE.trans h2⟩
    have : ¬ vd ⟨n, l, u⟩ = true := by
      intro h; rw [inB_three] at hi; have := of_decide_eq_false hi; have := of_decide_eq_true h; dsimp only at *; omega
    simp [chk, this]
  · rw [inB_three] at hi
    have hi' := of_decide_eq_true hi
    clear hi
    by_cases hlu : u < l
    · go_wp2_with fail
      go_ret
      refine ⟨ret_int ?_, hE.trans h2⟩
      have : ¬ vd ⟨n, l, u⟩ = true := by
        intro h; have := of_decide_eq_true h; dsimp only at *; omega
      simp [chk, this]
    · go_wp2_with fail
      go_ret
      refine ⟨ret_int ?_, hE.trans h2⟩
      have : vd ⟨n, l, u⟩ = true := by
        simp only [vd]; exact decide_eq_true (by omega)
      simp [chk, this]

end Go.Proofs.YtikjooemblpnbaaDoor
