/-
  What the iterator sizes of package size yields.
-/
import Derived.Test.YtikjooemblpnbaaDoorSzL
import Derived.Test.YtikjooemblpnbaaDoorRf
import Derived.Sort.CutIn
import Derived.Shelf.RegionOpen
namespace Go.Proofs.YtikjooemblpnbaaDoor
open Go.RowKit
attribute [local go_sem] Oper.semAt_some

/-- The size after k steps. -/
def chn (d : Dm) (l : List Int) : Nat → Dm
  | 0 => d
  | k + 1 => agn (chn d l k) (stp (l[k]?.getD 0))

/-- What a size is made of. -/
def dimV (d : Dm) : Value := .agg #[.int .i64 d.n, .int .i64 d.l, .int .i64 d.u]

theorem sizesS_any (d : Dm) (xa : Option Addr) (xl xc : Nat) (w : World) :
    Calls Tryd.prog 53 #[dimV d, .slice xa xl xc] w fun e w' =>
      e = .returned (.func (.func 78) #[] #[.pointer (some ⟨w.heap.size + 1, 0, none⟩), .pointer (some ⟨w.heap.size, 0, none⟩)]) ∧
        w' = (w.alloc (.cells #[.int .i64 d.n, .int .i64 d.l, .int .i64 d.u] 101)).alloc (.cells #[.slice xa xl xc] 24) := by
  obtain ⟨n, l, u⟩ := d
  unfold dimV
  go_enter Tryd.func53, Tryd.ntmps53
  go_wp2_with fail
  go_ret
  exact ⟨rfl, rfl⟩

/-- What is known when the iterator has ended after k rounds. -/
def Ended (d : Dm) (l : List Int) (k : Nat) : Prop :=
  k ≤ l.length ∧ redr d l = if k < l.length then none else some (chn d l k)

set_option maxRecDepth 100000 in
set_option maxHeartbeats 4000000 in
theorem sizes1S_any (n : Nat) (d : Dm) (vu : Value) (l : List Int) (hv : vd d = true) (hs : ∀ (j : Nat) (h : j < l.length), ¬ stp l[j] = 0) (l0 : Nat) (W : World) (J : Nat → World → Prop) (Bd Bl : Nat) (X : Nat → Prop)
    (hJe : ∀ k A B, J k A → Ext A B → J k B) (hJs : ∀ k A i v, J k A → J k (A.setCell ⟨Bd, i, none⟩ v))
    (hJr : ∀ k A, J k A → Blk A Bl [vu] 24 ∧ SlU A vu l ∧ Units A)
    (hXd : ¬ X Bd) (hX : ∀ j, X j → j < W.heap.size)
    (hY : ∀ k W1, J k W1 → k < l.length → YieldAt Fence.wide (n - 1) Tryd.prog l0 #[dimV (chn d l (k + 1))] W1 fun e W' => e = .returned (.bool true) ∧ J (k + 1) W' ∧ Kp X W1 W')
    (h0 : J 0 W) (hd : Blk W Bd [.int .i64 d.n, .int .i64 d.l, .int .i64 d.u] 101) :
    CallsIn Fence.wide n Tryd.prog 78 #[.func (.yield l0) #[] #[], .pointer (some ⟨Bl, 0, none⟩), .pointer (some ⟨Bd, 0, none⟩)] W fun e W' =>
      (∃ v, e = .returned v) ∧ ∃ k, Ended d l k ∧ J k W' := by
  obtain ⟨hl0, hl1, hl2⟩ := hJr 0 W h0
  obtain ⟨xa, ca, rfl, hna, ha⟩ := hl1
  clear hl2
  obtain ⟨q0, -, -⟩ := hl0.one
  refine callsIn_of_wp Tryd.func78 rfl trivial ?_ rfl
  simp only [Tryd.ntmps78, List.size_toArray, List.length_cons, List.length_nil, Nat.reduceAdd, Nat.reduceSub, Array.replicate_succ, Array.replicate_zero, List.push_toArray, List.append_toArray, List.nil_append, List.cons_append]
  gi_wp2_with fail
  clear q0 hl0
  gi_loopw [10] (fun i wr => ∃ k : Nat, k ≤ l.length ∧ i = .int .i64 k ∧ J k wr ∧ Blk wr Bd [.int .i64 (chn d l k).n, .int .i64 (chn d l k).l, .int .i64 (chn d l k).u] 101 ∧ W.heap.size ≤ wr.heap.size ∧ Hid (vd (chn d l k) = true) ∧ Hid (redr d l = redr (chn d l k) (l.drop k))) (fun i _ => l.length - (intOf i).toNat)
  case atStart => exact ⟨0, Nat.zero_le _, rfl, h0, hd, Nat.le_refl _, Lib.hid hv, Lib.hid rfl⟩
  case round =>
    obtain ⟨k, hk, rfl, hJk, hdk, hsz, HV, HR⟩ := hrel
    obtain ⟨-, hsl, hun⟩ := hJr k wr hJk
    obtain ⟨xa', ca', hxe, -, ha'⟩ := hsl
    injection hxe with hxe1 hxe2 hxe3
    subst hxe1
    subst hxe3
    clear hxe2
    by_cases hlt : k < l.length
    · obtain ⟨ba, oa, rfl, hba, hca⟩ := ha' (by intro h; simp [h] at hlt)
      have hca1 := hca k hlt
      have hgx : Hid (chn d l (k + 1) = agn (chn d l k) (stp l[k])) := Lib.hid (by rw [chn]; congr 2; simp [hlt])
      have hgr : Hid (redr (chn d l k) (l.drop k) = if agnOk (chn d l k) (stp l[k]) = true then redr (agn (chn d l k) (stp l[k])) (l.drop (k + 1)) else none) := Lib.hid (redr_drop _ l k hlt)
      have hsx := hs k hlt
      obtain ⟨x, hx⟩ : ∃ x, x = l[k] := ⟨_, rfl⟩
      rw [← hx] at hca1 hgx hgr hsx
      clear hca ha ha' hs hx
      have hlt' : (k : Int) < (l.length : Int) := by omega
      obtain ⟨beh, nm, u0, u1, u2, u3, hxr, s0, s1⟩ : ∃ beh nm, wr.cell? ⟨0, x.toNat * 4, none⟩ = some (.int .i64 (stp x)) ∧ wr.cell? ⟨0, x.toNat * 4 + 1, none⟩ = some (.int .i64 beh) ∧ wr.cell? ⟨0, x.toNat * 4 + 2, none⟩ = some (.string nm) ∧ wr.cell? ⟨0, x.toNat * 4 + 3, none⟩ = some (.func (.func 143) #[] #[]) ∧ (1 ≤ x ∧ x ≤ 2) ∧ 1 ≤ stp x ∧ stp x ≤ 254 := by
        rcases (show x = 1 ∨ x = 2 by (by_cases h1 : x = 1; · exact .inl h1); (by_cases h2 : x = 2; · exact .inr h2); exact (hsx (by simp [stp, h1, h2])).elim) with rfl | rfl
        · exact ⟨_, _, hun.cell 4, hun.cell 5, hun.cell 6, hun.cell 7, by omega, by simp [stp], by simp [stp]⟩
        · exact ⟨_, _, hun.cell 8, hun.cell 9, hun.cell 10, hun.cell 11, by omega, by simp [stp], by simp [stp]⟩
      have hug : 0 < wr.heap.size := hun.lt
      gi_upto_region 3 with fail
      have hdk0 := hdk
      obtain ⟨dk, hdk'⟩ : ∃ dk, dk = chn d l k := ⟨_, rfl⟩
      rw [← hdk'] at hdk0 hdk HV HR hgx hgr
      have HK := Lib.hid hdk'
      have hvk := HV.out
      clear hdk'
      refine wpIn_wide.2 ?_
      have hx2 : x.toNat < 3 := by omega
      have hx3 : 0 ≤ x := by omega
      have hF := Lib.hid <| show ∀ w4, Kp (fun j => wr.heap.size ≤ j) wr.drew w4 → Blk w4 Bd _ _ ∧ w4.cell? ⟨0, x.toNat * 4, none⟩ = _ ∧ w4.cell? ⟨0, x.toNat * 4 + 1, none⟩ = _ ∧ w4.cell? ⟨0, x.toNat * 4 + 2, none⟩ = _ ∧ w4.cell? ⟨0, x.toNat * 4 + 3, none⟩ = _ from fun w4 h4 =>
        ⟨hdk.drew.kp h4 (by have := hdk.lt; omega), (h4.cell (p := ⟨0, x.toNat * 4, none⟩) (by exact hug) (by show ¬ (wr.heap.size ≤ 0); omega)).trans u0, (h4.cell (p := ⟨0, x.toNat * 4 + 1, none⟩) (by exact hug) (by show ¬ (wr.heap.size ≤ 0); omega)).trans u1,
          (h4.cell (p := ⟨0, x.toNat * 4 + 2, none⟩) (by exact hug) (by show ¬ (wr.heap.size ≤ 0); omega)).trans u2, (h4.cell (p := ⟨0, x.toNat * 4 + 3, none⟩) (by exact hug) (by show ¬ (wr.heap.size ≤ 0); omega)).trans u3⟩
      clear u0 u1 u2 u3
      refine wp_region_calm [0, 1, 2, 3, 4, 5, 6, 7] [8, 9, 10] (fun j => wr.heap.size ≤ j) (by kernel_rfl) (by kernel_rfl) ?_
      repeat
        refine walkE_step rfl rfl rfl ?_
        apply Exists.intro
        refine ⟨fun w4 h4 => ?_, ?_, ?_⟩
        · obtain ⟨hB4, u0, u1, u2, u3⟩ := hF.out w4 h4; obtain ⟨f0, f1, f2, -⟩ := hB4.three
          go_wp2_with ((go_at_call 79; refine (againS_any dk (stp x) beh nm _ hvk s0 s1).mono ?_; rintro e w5 ⟨rfl, h5⟩))
          first | exact EPost.intro (Ext.refl _) rfl | exact EPost.intro (Ext.drew _) rfl | exact EPost.intro (h5) rfl
        · exact ⟨_, rfl⟩
      refine walkE_nil ?_
      refine walkT_cons rfl (fun w4 h4 => ?_)
      go_wp2_with fail
      refine ⟨Kp.alloc _ _, ?_⟩
      refine walkT_cons rfl (fun w5 h5 => ?_)
      have hb := (Blk.new w4 [.int .i64 0, .int .i64 0, .int .i64 0] 101).ext h5
      obtain ⟨g0, g1, g2, g3, g4, g5, g6⟩ := hb.three
      have hz : wr.heap.size ≤ w4.heap.size := by have := h4.size; simpa using this
      go_wp2_with fail
      refine ⟨(((Kp.refl _ _).setCell (by first | omega | (simp; done) | (simp; omega)) _).setCell (by first | omega | (simp; done) | (simp; omega)) _).setCell (by first | omega | (simp; done) | (simp; omega)) _, ?_⟩
      clear g0 g1 g2 g3 g4 g5
      refine walkT_cons rfl (fun w6 h6 => ?_)
      go_wp2_with fail
      refine ⟨Kp.refl _ _, ?_⟩
      refine walkT_end (fun w7 h7 hk7 => ?_)
      have hb7 := ((((hb.set 0 _).set 1 _).set 2 _).ext h6).ext h7
      simp only [List.set_cons_zero, List.set_cons_succ] at hb7
      have hd7 := hdk.drew.kp hk7 (by have := hdk.lt; omega)
      have hE7 : Ext wr w7 := (Ext.refl wr).dr.thn hk7 (fun j hj => hj)
      have hJ7 := hJe k wr w7 hJk hE7
      have hsz7 : wr.heap.size ≤ w7.heap.size := hE7.size
      have hz4 : W.heap.size ≤ w4.heap.size := Nat.le_trans hsz hz
      generalize w4.heap.size = b at *
      clear h7 hk7 hb h6 h5 h4 hF hdk hdk0 hE7 hca1 hun hba hx2 hx3 hug hJr
      obtain ⟨b0, b1, b2, bf0, bf1, bf2, b3⟩ := hb7.three
      obtain ⟨d0, d1, d2, df0, df1, df2, d3⟩ := hd7.three
      cases hc : agnOk dk (stp x)
      · gi_wp2_with (refine ⟨fun f h => (by cases h), ?_⟩)
        refine bodyPost_ret (results_none rfl _ _ _) rfl ?_
        exact ⟨⟨_, rfl⟩, k, ⟨hk, by rw [if_pos hlt, HR.out, hgr.out, if_neg (by simp [hc])]⟩, hJ7⟩
      · obtain ⟨fn, tmps, assign, body, hy, hR'⟩ := hY k w7 hJ7 hlt
        rw [hgx.out] at hy
        dsimp only [dimV] at hy
        gi_wp2_with fail
        refine ⟨fun h => (by cases h), hR'.mono ?_⟩
        rintro e w8 ⟨rfl, hJ8, hk8⟩
        have hb8 := hb7.kp hk8 (fun h => by have := hX _ h; omega)
        have hd8 := hd7.kp hk8 hXd
        have hs8 := hk8.size
        have HS := Lib.hid (show vd (agn dk (stp x)) = true from agn_vd dk _ hvk s0 s1 hc)
        have HE := Lib.hid (show redr d l = redr (agn dk (stp x)) (l.drop (k + 1)) by rw [HR.out, hgr.out, if_pos hc])
        clear hb7 hd7 hk8 hJ7 hy hR' b0 b1 b2 bf0 bf1 bf2 b3 d0 d1 d2 df0 df1 df2 d3
        obtain ⟨b0, b1, b2, -, -, -, b3⟩ := hb8.three
        obtain ⟨d0, d1, d2, df0, df1, df2, d3⟩ := hd8.three
        gi_wp2_with fail
        go_roundw
        case rel =>
          refine ⟨k + 1, by omega, by go_num, hJs _ _ _ _ (hJs _ _ _ _ (hJs _ _ _ _ hJ8)), ?_, by simp; omega, Lib.hid (by rw [hgx.out]; exact HS.out), Lib.hid (by rw [hgx.out]; exact HE.out)⟩
          rw [hgx.out]
          have := ((hd8.set 0 (.int .i64 (agn dk (stp x)).n)).set 1 (.int .i64 (agn dk (stp x)).l)).set 2 (.int .i64 (agn dk (stp x)).u)
          simpa only [List.set_cons_zero, List.set_cons_succ] using this
        case measure => simp [intOf]; omega
    · have hlt' : ¬ (k : Int) < (l.length : Int) := by omega
      obtain rfl : k = l.length := by omega
      gi_wp2_with fail
      go_end0
      exact ⟨⟨_, rfl⟩, l.length, ⟨Nat.le_refl _, by rw [if_neg (Nat.lt_irrefl _), HR.out]; simp [redr]⟩, hJk⟩

end Go.Proofs.YtikjooemblpnbaaDoor
