/-
  What rounded, of and again of package size return.
-/
import Derived.Test.YtikjooemblpnbaaDoorSzK
import Derived.Laws.EntriesVeiled
namespace Go.Proofs.YtikjooemblpnbaaDoor
open Go.RowKit

def rdn (n s : Int) : Int := n - n % s
def rup (n s : Int) : Int := if n - n % s = n then n else n - n % s + s

theorem rdn_eq (n s : Int) : rdn n s = n / s * s := by
  have := Int.emod_add_mul_ediv n s; rw [Int.mul_comm] at this; unfold rdn; omega

theorem rup_eq (n s : Int) (_h0 : 0 ≤ n) (hs : 1 ≤ s) : rup n s = (n + s - 1) / s * s := by
  have h1 := Int.emod_add_mul_ediv n s
  have h2 := Int.emod_nonneg n (show s ≠ 0 by omega)
  have h3 := Int.emod_lt_of_pos n (show 0 < s by omega)
  rw [Int.mul_comm] at h1
  unfold rup
  by_cases h : n % s = 0
  · rw [if_pos (by omega)]
    have : (n + s - 1) / s = n / s := by
      have e : n + s - 1 = (s - 1) + n / s * s := by omega
      rw [e, Int.add_mul_ediv_right _ _ (by omega), Int.ediv_eq_zero_of_lt (by omega) (by omega)]; omega
    rw [this]; omega
  · rw [if_neg (by omega)]
    have : (n + s - 1) / s = n / s + 1 := by
      have e : n + s - 1 = (n % s - 1) + (n / s + 1) * s := by rw [Int.add_mul]; omega
      rw [e, Int.add_mul_ediv_right _ _ (by omega), Int.ediv_eq_zero_of_lt (by omega) (by omega)]; omega
    rw [this, Int.add_mul]; omega

theorem nom_eq (n s : Int) (_h0 : 0 ≤ n) (hs : 1 ≤ s) : (if 1000000000 < rup n s ∨ n - rdn n s ≤ rup n s - n then rdn n s else rup n s) = nom n s := by
  have h1 := Int.emod_add_mul_ediv n s
  have h2 := Int.emod_nonneg n (show s ≠ 0 by omega)
  have h3 := Int.emod_lt_of_pos n (show 0 < s by omega)
  rw [Int.mul_comm] at h1
  unfold rup rdn nom
  by_cases h : n % s = 0
  · rw [if_pos (show n - n % s = n by omega)]
    rw [if_pos (Or.inr (by omega)), if_neg (by omega)]; omega
  · rw [if_neg (show ¬ n - n % s = n by omega)]
    by_cases h4 : n / s * s + s ≤ 1000000000 ∧ n / s * s + s - n < n - n / s * s
    · rw [if_neg (by omega), if_pos h4]; omega
    · rw [if_pos (by omega), if_neg h4]; omega

theorem mod_le (n s : Int) (h0 : 0 ≤ n) (hs : 1 ≤ s) : n % s ≤ n := by
  have h1 := Int.emod_add_mul_ediv n s
  have h2 : 0 ≤ s * (n / s) := Int.mul_nonneg (by omega) (Int.ediv_nonneg h0 (by omega))
  omega

theorem rd_bd (n s : Int) (h0 : 0 ≤ n) (h1 : n ≤ 1000000000) (s0 : 1 ≤ s) (s1 : s ≤ 254) : 0 ≤ rdn n s ∧ rdn n s ≤ n ∧ n ≤ rup n s ∧ rup n s ≤ 1000000254 := by
  have h2 := Int.emod_nonneg n (show s ≠ 0 by omega)
  have h3 := Int.emod_lt_of_pos n (show 0 < s by omega)
  have h4 := mod_le n s h0 s0
  unfold rup rdn
  split <;> omega

theorem rounded_any (n s : Int) (w : World) (h0 : 0 ≤ n) (h1 : n ≤ 1000000000) (s0 : 1 ≤ s) (s1 : s ≤ 254) :
    Calls Tryd.prog 143 #[.int .i64 n, .int .i64 s] w fun e w' => e = .returned (.tuple #[.int .i64 (rdn n s), .int .i64 (rup n s)]) ∧ w = w' := by
  have h2 := Int.emod_nonneg n (show s ≠ 0 by omega)
  have h3 := Int.emod_lt_of_pos n (show 0 < s by omega)
  have h4 := mod_le n s h0 s0
  have hs : ¬ s = 0 := by omega
  by_cases hc : n - n % s = n
  · have HC := Lib.hid hc
    have hc' : (n - n % s == n) = true := by simpa using hc
    clear hc
    go_enter Tryd.func143, Tryd.ntmps143
    go_wp2_with fail
    go_ret2
    exact ⟨by unfold rdn rup; rw [if_pos HC.out]; have := HC.out; rw [this]; rfl, rfl⟩
  · have HC := Lib.hid hc
    have hc' : (n - n % s == n) = false := by simpa using hc
    clear hc
    go_enter Tryd.func143, Tryd.ntmps143
    go_wp2_with fail
    go_ret2
    exact ⟨by unfold rdn rup; rw [if_neg HC.out]; rfl, rfl⟩

/-- The package's table of units. -/
def Units (W : World) : Prop :=
  0 < W.heap.size ∧ ∀ i, i < 12 → W.cell? ⟨0, i, none⟩ = (#[.int .i64 0, .int .i64 0, .string ⟨#[]⟩, .nilFunc, .int .i64 100, .int .i64 3, .string ⟨#[109, 109]⟩, .func (.func 143) #[] #[], .int .i64 254, .int .i64 4, .string ⟨#[105, 110]⟩, .func (.func 143) #[] #[]] : Array Value)[i]?

theorem Units.cell {W : World} (h : Units W) (i : Nat) (hi : i < 12 := by decide) : W.cell? ⟨0, i, none⟩ = (#[.int .i64 0, .int .i64 0, .string ⟨#[]⟩, .nilFunc, .int .i64 100, .int .i64 3, .string ⟨#[109, 109]⟩, .func (.func 143) #[] #[], .int .i64 254, .int .i64 4, .string ⟨#[105, 110]⟩, .func (.func 143) #[] #[]] : Array Value)[i]? := h.2 i hi
theorem Units.lt {W : World} (h : Units W) : 0 < W.heap.size := h.1
theorem Units.ext {W W' : World} (h : Units W) (he : Ext W W') : Units W' :=
  ⟨Nat.lt_of_lt_of_le h.1 he.size, fun i hi => (World.cell?_of_block (he.block _ h.1)).trans (h.2 i hi)⟩
theorem Units.of_block {W : World} {t : TypeId} {fr : Nat × Nat} (h : W.heap[0]? = some (.cells (#[.int .i64 0, .int .i64 0, .string ⟨#[]⟩, .nilFunc, .int .i64 100, .int .i64 3, .string ⟨#[109, 109]⟩, .func (.func 143) #[] #[], .int .i64 254, .int .i64 4, .string ⟨#[105, 110]⟩, .func (.func 143) #[] #[]] : Array Value) t fr)) : Units W :=
  ⟨(Array.getElem?_eq_some_iff.1 h).1, fun i _ => by simp [World.cell?, h]⟩
theorem Units.alloc {W : World} (h : Units W) (o : Obj) : Units (W.alloc o) := h.ext (Ext.refl W).al

/-- The cells of a unit. -/
def unitOf (k : Int) : Value := if k = 1 then .agg #[.int .i64 100, .int .i64 3, .string ⟨#[109, 109]⟩, .func (.func 143) #[] #[]] else .agg #[.int .i64 254, .int .i64 4, .string ⟨#[105, 110]⟩, .func (.func 143) #[] #[]]

theorem agn_of (n l u s : Int) (hn : 0 ≤ n) (hl : 0 ≤ l) (s0 : 1 ≤ s) : agn ⟨n, l, u⟩ s = ⟨if 1000000000 < rup n s ∨ n - rdn n s ≤ rup n s - n then rdn n s else rup n s, rup l s, rdn u s⟩ := by
  simp only [agn]
  rw [nom_eq n s hn s0, rup_eq l s hl s0, rdn_eq u s]

set_option maxHeartbeats 1000000 in
theorem againS_any (d : Dm) (s beh : Int) (nm : ByteArray) (w : World) (hv : vd d = true) (s0 : 1 ≤ s) (s1 : s ≤ 254) :
    Calls Tryd.prog 79 #[.agg #[.int .i64 d.n, .int .i64 d.l, .int .i64 d.u], .agg #[.int .i64 s, .int .i64 beh, .string nm, .func (.func 143) #[] #[]]] w fun e w' =>
      e = .returned (.tuple #[.agg #[.int .i64 (agn d s).n, .int .i64 (agn d s).l, .int .i64 (agn d s).u], .bool (agnOk d s)]) ∧ Ext w w' := by
  obtain ⟨n, l, u⟩ := d
  obtain ⟨n0, n1, l0, l1, u1⟩ := of_decide_eq_true hv
  clear hv
  dsimp only at *
  have hA := agn_of n l u s n0 l0 s0
  have HO : agnOk ⟨n, l, u⟩ s = decide (rup l s ≤ rdn u s) := by unfold agnOk; rw [hA]
  have HA := Lib.hid hA
  have HO := Lib.hid HO
  clear hA
  obtain ⟨a0, a1, a2, a3⟩ := rd_bd n s n0 n1 s0 s1
  obtain ⟨b0, b1, b2, b3⟩ := rd_bd l s l0 (by omega) s0 s1
  obtain ⟨c0, c1, c2, c3⟩ := rd_bd u s (by omega) u1 s0 s1
  go_enter Tryd.func79, Tryd.ntmps79
  go_wp2_with fail
  refine (rounded_any l s _ l0 (by omega) s0 s1).mono ?_
  rintro e w' ⟨rfl, rfl⟩
  go_wp2_with fail
  refine (rounded_any u s _ (by omega) u1 s0 s1).mono ?_
  rintro e w' ⟨rfl, rfl⟩
  go_wp2_with fail
  refine (rounded_any n s _ n0 n1 s0 s1).mono ?_
  rintro e w' ⟨rfl, rfl⟩
  by_cases h1 : 1000000000 < rup n s
  · go_wp2_with fail
    refine bodyPost_ret (v := .tuple #[.agg #[.int .i64 (rdn n s), .int .i64 (rup l s), .int .i64 (rdn u s)], .bool (decide (rup l s ≤ rdn u s))]) ?_ rfl ⟨by rw [HA.out, HO.out, if_pos (Or.inl h1)], (by repeat (first | exact hE | exact Ext.refl _ | apply Ext.al | apply Ext.dr | refine Ext.sc (by first | omega | (simp; done) | (simp; omega)) ?_ | assumption))⟩
    simp [results, Tryd.results79, go_sem, *]
  · by_cases h2 : n - rdn n s ≤ rup n s - n
    · go_wp2_with fail
      refine bodyPost_ret (v := .tuple #[.agg #[.int .i64 (rdn n s), .int .i64 (rup l s), .int .i64 (rdn u s)], .bool (decide (rup l s ≤ rdn u s))]) ?_ rfl ⟨by rw [HA.out, HO.out, if_pos (Or.inr h2)], (by repeat (first | exact hE | exact Ext.refl _ | apply Ext.al | apply Ext.dr | refine Ext.sc (by first | omega | (simp; done) | (simp; omega)) ?_ | assumption))⟩
      simp [results, Tryd.results79, go_sem, *]
    · go_wp2_with fail
      refine bodyPost_ret (v := .tuple #[.agg #[.int .i64 (rup n s), .int .i64 (rup l s), .int .i64 (rdn u s)], .bool (decide (rup l s ≤ rdn u s))]) ?_ rfl ⟨by rw [HA.out, HO.out, if_neg (by omega)], (by repeat (first | exact hE | exact Ext.refl _ | apply Ext.al | apply Ext.dr | refine Ext.sc (by first | omega | (simp; done) | (simp; omega)) ?_ | assumption))⟩
      simp [results, Tryd.results79, go_sem, *]

set_option maxHeartbeats 1000000 in
theorem ofS_any (k : Int) (w : World) (hU : Units w) (h0 : 0 ≤ k) (h1 : k ≤ 255) :
    Calls Tryd.prog 52 #[.int .u8 k] w fun e w' =>
      (if stp k = 0 then e = .returned (.tuple #[.agg #[.int .i64 0, .int .i64 0, .string ⟨#[]⟩, .nilFunc], .int .i64 11]) else e = .returned (.tuple #[unitOf k, .int .i64 0])) ∧ Ext w w' := by
  go_enter Tryd.func52, Tryd.ntmps52
  go_wp2_with fail
  obtain ⟨w1, hw1⟩ : ∃ w1, w1 = (w.alloc (.cells #[.int .i64 0, .int .i64 0, .string ⟨#[]⟩, .nilFunc] 97)).alloc (.cells #[.int .i64 k] 3) := ⟨_, rfl⟩
  have hE : Ext w w1 := by rw [hw1]; exact (Ext.refl w).al.al
  have hR : Blk w1 w.heap.size [.int .i64 0, .int .i64 0, .string ⟨#[]⟩, .nilFunc] 97 := by rw [hw1]; exact (Blk.new w _ _).alloc _
  have hK : Blk w1 (w.heap.size + 1) [.int .i64 k] 3 := by rw [hw1]; exact Blk.new' _ [.int .i64 k] _ (by simp)
  change Calls _ _ _ ((w.alloc (.cells #[.int .i64 0, .int .i64 0, .string ⟨#[]⟩, .nilFunc] 97)).alloc (.cells #[.int .i64 k] 3)) _
  rw [← hw1]
  clear hw1
  refine (inS_any 1 2 _ [k] w1 (SlI.of_blk hK (by rfl))).mono ?_
  rintro e w2 ⟨rfl, h2⟩
  replace hE := hE.trans h2
  replace hR := hR.ext h2
  have hU2 := Units.ext hU hE
  clear h2
  obtain ⟨r0, r1, r2, r3, r4, r5, r6, r7, r8⟩ := hR.four
  rw [inB_one]
  by_cases hk : 1 ≤ k ∧ k ≤ 2
  · rcases (show k = 1 ∨ k = 2 by omega) with rfl | rfl
    · have c4 := hU2.cell 4
      have c5 := hU2.cell 5
      have c6 := hU2.cell 6
      have c7 := hU2.cell 7
      simp at c4 c5 c6 c7
      go_wp2_with fail
      refine bodyPost_ret (v := .tuple #[unitOf 1, .int .i64 0]) ?_ rfl ⟨by simp [stp], (by repeat (first | exact hE | exact Ext.refl _ | apply Ext.al | apply Ext.dr | refine Ext.sc (by first | omega | (simp; done) | (simp; omega)) ?_ | assumption))⟩
      simp [results, Tryd.results52, go_sem, *]
      all_goals first | rfl | simp [unitOf]
    · have c4 := hU2.cell 8
      have c5 := hU2.cell 9
      have c6 := hU2.cell 10
      have c7 := hU2.cell 11
      simp at c4 c5 c6 c7
      go_wp2_with fail
      refine bodyPost_ret (v := .tuple #[unitOf 2, .int .i64 0]) ?_ rfl ⟨by simp [stp], (by repeat (first | exact hE | exact Ext.refl _ | apply Ext.al | apply Ext.dr | refine Ext.sc (by first | omega | (simp; done) | (simp; omega)) ?_ | assumption))⟩
      simp [results, Tryd.results52, go_sem, *]
      all_goals first | rfl | simp [unitOf]
  · have hs : stp k = 0 := by unfold stp; rw [if_neg (by omega), if_neg (by omega)]
    have hd : decide (1 ≤ k ∧ k ≤ 2) = false := decide_eq_false hk
    rw [hd]
    go_wp2_with fail
    refine bodyPost_ret (v := .tuple #[.agg #[.int .i64 0, .int .i64 0, .string ⟨#[]⟩, .nilFunc], .int .i64 11]) ?_ rfl ⟨by first | rfl | rw [if_pos hs], (by repeat (first | exact hE | exact Ext.refl _ | apply Ext.al | apply Ext.dr | refine Ext.sc (by first | omega | (simp; done) | (simp; omega)) ?_ | assumption))⟩
    simp [results, Tryd.results52, go_sem, *]

end Go.Proofs.YtikjooemblpnbaaDoor
