/-
  size.Read as a contract, of any text: the deferred call that recovers.
-/
import Derived.Test.YtikjooemblpnbaaDoorRq
namespace Go.Proofs.YtikjooemblpnbaaDoor
open Go.RowKit

def textR : List PanicEntry := [{ v := .iface 123 (.agg #[.int .i64 13]), recovered := true }]

def rc_catch : RCode := .seq (.reg 6 false [
          { d := some 4, op := .alloc [.int .i64 0] },
          { d := none, op := .store 1 (.t 4) (.t 11) }])
        (.reg 7 true [
          { d := some 12, op := .build [.int .i64 0, .int .i64 0, .int .i64 0] [], aft := [] },
          { d := some 13, op := .faddr 0 (.t 4), aft := [] },
          { d := some 14, op := .load false 1 (.t 13), aft := [1] },
          { d := none, op := .store 3 (.t 0) (.t 12), aft := [0, 0] },
          { d := none, op := .store 1 (.t 1) (.c (.int .u8 0)), aft := [3, 0, 3] },
          { d := none, op := .store 1 (.t 2) (.t 14), aft := [2, 4, 0, 1, 2, 3, 4] }])

theorem catch_text (p2 p3 p4 : Value) (W : World) {Post : World → Prop}
    (h : ∀ (a : Act), a.tmps.size = Tryd.f67.ntmps → a.tmps.getD 0 undef = p2 → a.tmps.getD 1 undef = p3 → a.tmps.getD 2 undef = p4 → a.tmps.getD 11 undef = .agg #[.int .i64 13] → a.defers = [] →
      ∀ c, okCode Tryd.prog Tryd.f67.ntmps c rc_catch = true → c.wp Tryd.prog (fun e a' w' => e = .normal ∧ a'.defers = [] ∧ Post w') a W) :
    CallsD Tryd.prog 67 #[p2, p3, p4] (.panicking textP) W fun e u' w' => e = .returned (.tuple #[]) ∧ u' = .panicking textR ∧ Post w' := by
  have hta : ∀ w : World, (Instr.typeAssert (.iface 123 (.agg #[.int .i64 13])) 20 123 true).run Tryd.prog w = .ok (.tuple #[.agg #[.int .i64 13], .bool true]) w := fun w => by kernel_rfl
  refine callsD_of_wpS Tryd.func67 rfl fun c₀ cs hu => ?_
  apply wpS_seq
  apply wpS_region
  simp [wpOpsS, go_sem, recoverD, hu, textP, Tryd.ntmps67, Exit.thenS]
  refine wpS_of_wp (wp_block ?_)
  refine wp_seq (wp_region ?_)
  simp [wpOps, wpOp, Oper.wp, execOp, go_sem, Region.wanted, Act.put, Act.eval, Oper.upon, eqGuard]
  refine .inl (wp_cond_split (t := false) (by simp [Act.eval, Array.replicate]) (fun h => by cases h) (fun _ => ?_))
  refine wp_seq (wp_region ?_)
  simp [wpOps, wpOp, Oper.wp, execOp, go_sem, Region.wanted, Act.put, Act.eval, Oper.upon, eqGuard, hta]
  refine .inl (.inl (.inl (wp_cond_split (t := true) (by simp [Act.eval, Array.replicate]) (fun _ => ?_) (fun h => by cases h))))
  refine wp_mono (h _ (by simp) (by simp) (by simp) (by simp) (by simp) (by simp) _ (by kernel_rfl)) ?_
  rintro e a' w' ⟨rfl, hd, hp⟩
  simp [Exit.inBlock, bodyPostS, results, Tryd.results67, hu, hd]
  exact ⟨rfl, hp⟩

def ctS (d : Dm) (u : Int) : St := ⟨[(11, .agg [.int .i64 13]), (2, .ptr 1004 0), (1, .ptr 1003 0), (0, .ptr 1002 0)], rdO d u⟩
def rdC : List (Nat × AObj) := [(1002, .box [.int .i64 0, .int .i64 0, .int .i64 0]), (1003, .box [.int .u8 0]), (1004, .box [.int .i64 13])]

theorem catch_ar (R : Run) (d : Dm) (u : Int) : AR Tryd.prog R rc_catch (ctS d u) (fun e st => e = .normal ∧ Weak st ⟨[], rdC⟩) := by
  refine GO_AR mixed 1000 ?_
  simp -implicitDefEqProofs [rc_catch, ctS, rdO]
  refine ⟨rfl, Weak.sub (by simp) (by simp [rdC, lk, keptO, keptA, AV.keys]) (by simp [rdC, lk])⟩

section
variable {G : Nat → Option (List AV)}
theorem readN_pc (hg : Gs G) (s : ByteArray) (hs : s.size < 4294967281) (h : readV s = none) : PC Tryd.prog G 37 [.str s] (.tup [.agg [.int .i64 0, .int .i64 0, .int .i64 0], .int .u8 0, .int .i64 13]) := by
  refine ⟨by kernel_rfl, fun M W vs hM hG hz hv' => ?_⟩
  obtain ⟨l⟩ := vs
  match l, hz, hv' with
  | [x0], _, hv' =>
    rw [(hv' 0 _ x0 rfl rfl).str_inv]
    refine read_enter hM hG fun R a' W1 κ hRG hN hD hk' hMM hMX hE hW0 hXo hloc c2 k2 => ?_
    obtain ⟨b2, b3, b4, -, -, -, m2, m3, m4, r2, r3, r4, hd⟩ := hloc
    subst hRG
    refine wp_mono (read_arp R hg s hs h c2 (by rw [hN]; exact k2) a' W1 ⟨κ, hk'⟩) ?_
    rintro e a2 W2 ⟨st, ⟨rfl, d, u, hw⟩, hsr⟩
    obtain ⟨κ2, hk2⟩ := hw R a2 W2 hsr
    show Leaves _ _ _ _ _ _ _
    rw [hk2.defers, hD, hd]
    have q2 := (hk2.mono.box 1002 _ m2 r2).1
    have q3 := (hk2.mono.box 1003 _ m3 r3).1
    have q4 := (hk2.mono.box 1004 _ m4 r4).1
    have v2 := hk2.tm 2 _ rfl
    have v3 := hk2.tm 3 _ rfl
    have v4 := hk2.tm 4 _ rfl
    have val : ∀ {k n b : Nat}, VR ((⟨rdT, rdO d u⟩ : St).env R.M κ2) W2 (.ptr k 0) (a2.tmps.getD n undef) → ((⟨rdT, rdO d u⟩ : St).env R.M κ2).loc k = some (b, 0) → a2.tmps.getD n undef = .pointer (some ⟨b, 0, none⟩) := fun {k n b} hv hb => by
      obtain ⟨b', s', g1, -, g2⟩ := hv.ptr_inv
      rw [hb] at g1
      simp only [Option.some.injEq, Prod.mk.injEq] at g1
      obtain ⟨rfl, rfl⟩ := g1
      exact g2
    refine leaves_cons (f := 67) (args := #[.pointer (some ⟨b2, 0, none⟩), .pointer (some ⟨b3, 0, none⟩), .pointer (some ⟨b4, 0, none⟩)]) (by simp) (by simp [go_sem]) ((catch_text _ _ _ W2 (Post := fun w' => ∃ κ3, SK R ⟨rdT, rdC⟩ a2 w' κ3) ?_).mono ?_)
    · intro a hsz h0 h1 h2 h11 hde c hc
      have hk3 : SK { R with N := Tryd.f67.ntmps, D := [] } (ctS d u) a W2 κ2 := by
        refine ⟨hde, hsz, fun n x hx => ?_, hk2.obj, hk2.dom, hk2.inj, hk2.low, hk2.apart, hk2.kp, hk2.gr, hk2.mono, hk2.ent⟩
        simp only [St.tmp, ctS, lk] at hx
        split at hx
        · rename_i e; subst e; cases hx; rw [h11]
          exact .pv (.agg _ _ rfl fun i x u hx hu => by
            match i, hx, hu with
            | 0, hx, hu => cases hx; cases hu; exact .int _ _)
        · split at hx
          · rename_i e; subst e; cases hx; rw [h2]; exact .ptr 1004 0 b4 0 q4 rfl
          · split at hx
            · rename_i e; subst e; cases hx; rw [h1]; exact .ptr 1003 0 b3 0 q3 rfl
            · split at hx
              · rename_i e; subst e; cases hx; rw [h0]; exact .ptr 1002 0 b2 0 q2 rfl
              · cases hx
      refine wp_mono (catch_ar _ d u c hc a W2 ⟨κ2, hk3⟩) ?_
      rintro e a' w' ⟨st', ⟨rfl, hw'⟩, hsr'⟩
      obtain ⟨κ3, hk4⟩ := hw' _ _ _ hsr'
      have p2 := (hk4.mono.box 1002 _ m2 r2).1
      have p3 := (hk4.mono.box 1003 _ m3 r3).1
      have p4 := (hk4.mono.box 1004 _ m4 r4).1
      refine ⟨rfl, hk4.defers, κ3, hk2.defers, hk2.size, fun n x hx => ?_, hk4.obj, hk4.dom, hk4.inj, hk4.low, hk4.apart, hk4.kp, hk4.gr, hk4.mono, hk4.ent⟩
      simp only [St.tmp, rdT, lk] at hx
      split at hx
      · rename_i e; subst e; cases hx; rw [val v4 q4]; exact .ptr 1004 0 b4 0 p4 rfl
      · split at hx
        · rename_i e; subst e; cases hx; rw [val v3 q3]; exact .ptr 1003 0 b3 0 p3 rfl
        · split at hx
          · rename_i e; subst e; cases hx; rw [val v2 q2]; exact .ptr 1002 0 b2 0 p2 rfl
          · cases hx
    · rintro e u' w' ⟨rfl, rfl, κ3, hk4⟩
      obtain ⟨u, hu, hvr⟩ := results_of hk4 (rs := rr_Read) (fn := Tryd.f37) (P := Tryd.prog) (by kernel_rfl) (xs := [.agg [.int .i64 0, .int .i64 0, .int .i64 0], .int .u8 0, .int .i64 13]) (by rfl)
      refine ⟨u, hu, u, rfl, (hvr.toPV (by simp [tupV, AV.pure])).flat (by simp [tupV, AV.flat]), ?_⟩
      have hkp := hk4.kp
      rw [hW0] at hkp
      exact ⟨hkp.os.trans hE.os, hkp.tape.trans hE.tape, hkp.output.trans hE.output, Nat.le_trans hE.size hkp.size, fun i hi => (hkp.block i (Nat.lt_of_lt_of_le hi hE.size) (fun hx => by have := hXo i hx; omega)).trans (hE.block i hi)⟩
end
end Go.Proofs.YtikjooemblpnbaaDoor
