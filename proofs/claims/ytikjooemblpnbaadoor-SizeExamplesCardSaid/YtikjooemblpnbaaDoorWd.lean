/-
  size.Read, of a text that is a size: what it reads.
-/
import Derived.Test.YtikjooemblpnbaaDoorWc
import Derived.Test.YtikjooemblpnbaaDoorAmL
/-! size.Read, of a text that is a size: what it reads. -/
namespace Go.Proofs.YtikjooemblpnbaaDoor
open Go.RowKit

def rc_Read_rest_loop : RCode :=
  .seq (.reg 5 false [
        { d := some 18, op := .bin .lss (.t 17) (.c (.int .i64 3)) }])
      (.seq (.cond (.t 18)
        (.skip)
        (.exit 0))
      (.seq (.block 1
        (.seq (.reg 6 false [
          { d := some 19, op := .mov (.t 17) },
          { d := some 20, op := .vop (.aidx true 3 4) [(.t 16), (.t 17)] },
          { d := some 7, op := .alloc [.int .i64 0, .int .i64 0, .str ⟨#[]⟩, .nilf] },
          { d := some 6, op := .mov (.t 19) },
          { d := none, op := .store 4 (.t 7) (.t 20) }])
        (.seq (.seq (.reg 7 true [
          { d := some 21, op := .mov (.t 6), aft := [] },
          { d := some 22, op := .bin .eql (.t 21) (.c (.int .i64 0)), aft := [0] },
          { d := some 23, op := .mov (.t 22), aft := [1] },
          { d := some 24, op := .faddr 2 (.t 7), guard := some (23, false), aft := [2] },
          { d := some 25, op := .load false 1 (.t 24), guard := some (23, false), aft := [3, 2] },
          { d := some 26, op := .mov (.t 5), guard := some (23, false), aft := [2] },
          { d := some 27, op := .iaddr 1 (.t 26) (.c (.int .i64 3)), guard := some (23, false), aft := [5, 2] },
          { d := some 28, op := .load false 1 (.t 27), guard := some (23, false), aft := [6, 2] },
          { d := some 29, op := .bin .neq (.t 25) (.t 28), guard := some (23, false), aft := [4, 7, 2] },
          { d := some 30, op := .pick (.t 23) (.c (.bool true)) (.t 29), aft := [2, 8] }])
        (.cond (.t 30)
          (.exit 1)
          (.skip)))
        (.seq (.reg 8 true [
          { d := some 31, op := .load true 4 (.t 7), aft := [] },
          { d := some 32, op := .mov (.t 5), aft := [] },
          { d := some 33, op := .iaddr 1 (.t 32) (.c (.int .i64 0)), aft := [1] },
          { d := some 34, op := .load false 1 (.t 33), aft := [2] },
          { d := some 35, op := .call 70 [.t 31, .t 34], aft := [0, 3] },
          { d := some 8, op := .mov (.t 35), aft := [4, 4, 0, 1, 2, 3, 4] }])
        (.seq (.reg 9 true [
          { d := some 36, op := .mov (.t 8), aft := [] },
          { d := some 37, op := .faddr 0 (.t 7), aft := [] },
          { d := some 38, op := .load false 1 (.t 37), aft := [1] },
          { d := some 39, op := .bin .mul (.t 36) (.t 38), aft := [0, 2] },
          { d := some 40, op := .mov (.t 8), aft := [] },
          { d := some 41, op := .load true 4 (.t 7), aft := [] },
          { d := some 42, op := .mov (.t 5), aft := [] },
          { d := some 43, op := .iaddr 1 (.t 42) (.c (.int .i64 1)), aft := [6] },
          { d := some 44, op := .load false 1 (.t 43), aft := [7] },
          { d := some 45, op := .call 71 [.t 41, .t 44], aft := [5, 8] },
          { d := some 46, op := .bin .add (.t 40) (.t 45), aft := [4, 9] },
          { d := some 47, op := .faddr 0 (.t 7), aft := [] },
          { d := some 48, op := .load false 1 (.t 47), aft := [11] },
          { d := some 49, op := .bin .mul (.t 46) (.t 48), aft := [10, 12] },
          { d := some 50, op := .mov (.t 8), aft := [] },
          { d := some 51, op := .load true 4 (.t 7), aft := [] },
          { d := some 52, op := .mov (.t 5), aft := [] },
          { d := some 53, op := .iaddr 1 (.t 52) (.c (.int .i64 2)), aft := [16] },
          { d := some 54, op := .load false 1 (.t 53), aft := [17] },
          { d := some 55, op := .call 71 [.t 51, .t 54], aft := [15, 18, 9] },
          { d := some 56, op := .bin .add (.t 50) (.t 55), aft := [14, 19] },
          { d := some 57, op := .faddr 0 (.t 7), aft := [] },
          { d := some 58, op := .load false 1 (.t 57), aft := [21] },
          { d := some 59, op := .bin .mul (.t 56) (.t 58), aft := [20, 22] },
          { d := some 60, op := .build [.int .i64 0, .int .i64 0, .int .i64 0] [(0, 1, .t 39), (1, 1, .t 49), (2, 1, .t 59)], aft := [3, 13, 23] },
          { d := none, op := .store 3 (.t 2) (.t 60), aft := [24, 19, 0, 1, 2, 3, 4, 5, 6, 7, 8, 9, 10, 11, 12, 13, 14, 15, 16, 17, 18, 19, 20, 21, 22, 23, 24] }])
        (.reg 10 false [
          { d := some 61, op := .mov (.t 6) },
          { d := some 62, op := .conv .u8 (.t 61) },
          { d := none, op := .store 1 (.t 3) (.t 62) }]))))))
      (.reg 11 false [
        { d := some 63, op := .bin .add (.t 17) (.c (.int .i64 1)) },
        { d := some 17, op := .mov (.t 63) }])))

def rc_Read_rest : RCode :=
  .seq (.reg 2 false [
    { d := some 10, op := .mov (.t 0) },
    { d := some 11, op := .call 68 [.t 10, .c (.str ⟨#[32]⟩)] },
    { d := some 5, op := .mov (.t 11) }])
  (.seq (.reg 3 false [
    { d := some 12, op := .mov (.t 5) },
    { d := some 13, op := .len (.t 12) },
    { d := some 14, op := .bin .eql (.t 13) (.c (.int .i64 4)) },
    { d := some 15, op := .call 69 [.t 14] }])
  (.seq (.seq (.reg 4 false [
    { d := some 16, op := .load true 12 (.g 0) },
    { d := some 17, op := .mov (.c (.int .i64 0)) }])
  (.block 0
    (.loop
      rc_Read_rest_loop)))
  (.seq (.reg 12 false [
    { d := some 64, op := .load false 1 (.t 3) },
    { d := some 65, op := .bin .gtr (.t 64) (.c (.int .u8 0)) },
    { d := some 66, op := .mov (.t 65) },
    { d := some 67, op := .load true 3 (.t 2), guard := some (66, true) },
    { d := some 68, op := .call 39 [.t 67], guard := some (66, true) },
    { d := some 69, op := .bin .eql (.t 68) (.c (.int .i64 0)), guard := some (66, true) },
    { d := some 70, op := .pick (.t 66) (.t 69) (.c (.bool false)) },
    { d := some 71, op := .call 69 [.t 70] }])
  (.seq (.reg 13 true [
    { d := some 72, op := .load true 3 (.t 2), aft := [] },
    { d := some 73, op := .load false 1 (.t 3), aft := [] },
    { d := none, op := .store 3 (.t 2) (.t 72), aft := [0, 0] },
    { d := none, op := .store 1 (.t 3) (.t 73), aft := [1, 2, 0, 1, 2] },
    { d := none, op := .store 1 (.t 4) (.c (.int .i64 0)), aft := [3, 0, 1, 2, 3] }])
  (.ret)))))

def rc_Read_0 : RCode := .reg 0 false [
    { d := some 2, op := .alloc [.int .i64 0, .int .i64 0, .int .i64 0] },
    { d := some 3, op := .alloc [.int .u8 0] },
    { d := some 4, op := .alloc [.int .i64 0] }]
def rr_Read : List RRes := [.c 2 true 3, .c 3 false 1, .c 4 false 1]

section
variable {G : Nat → Option (List AV)}

theorem catch_idle (p2 p3 p4 : Value) (W : World) : CallsD Tryd.prog 67 #[p2, p3, p4] .returning W fun e u' w' => e = .returned (.tuple #[]) ∧ u' = .returning ∧ w' = W := by
  refine callsD_of_wpS Tryd.func67 rfl fun c₀ cs hu => ?_
  apply wpS_seq
  apply wpS_region
  simp [wpOpsS, go_sem, recoverD, hu, Tryd.ntmps67, Exit.thenS]
  refine wpS_of_wp (wp_block ?_)
  refine wp_seq (wp_region ?_)
  simp [wpOps, wpOp, Oper.wp, execOp, go_sem, Region.wanted, Act.put, Act.eval, Oper.upon, eqGuard]
  refine .inl (wp_cond_split (t := true) (by simp [Act.eval, Array.replicate]) (fun _ => wp_region ?_) (fun h => by cases h))
  simp [wpOps, wpOp, Oper.wp, execOp, go_sem, Region.wanted, Act.put, Act.eval, Oper.upon, Exit.inBlock, bodyPostS, results, Tryd.results67, hu]
  exact .inl (by cases c₀; simp_all)

/-- What the deferred call is, where it is laid. -/
def dfR (a : Act) : Deferred := { target := .fn (.func 67) #[a.tmps.getD 2 undef, a.tmps.getD 3 undef, a.tmps.getD 4 undef], args := #[] }
def dfA (a : Act) : Act := { (a.put (some 9) (.func (.func 67) #[] #[a.tmps.getD 2 undef, a.tmps.getD 3 undef, a.tmps.getD 4 undef])) with defers := dfR a :: a.defers }

theorem rd_split : ∃ c0 c1 c2, Tryd.f37.body = some (.seq c0 (.seq c1 c2)) ∧ okCode Tryd.prog Tryd.f37.ntmps c0 rc_Read_0 = true ∧ okCode Tryd.prog Tryd.f37.ntmps c2 rc_Read_rest = true ∧
    ∀ (Q : Exit → Act → World → Prop) (a : Act) (W : World), a.tmps.size = Tryd.f37.ntmps → Q .normal (dfA a) W → c1.wp Tryd.prog Q a W := by
  refine ⟨_, _, _, rfl, by kernel_rfl, by kernel_rfl, fun Q a W hs h => ?_⟩
  have hmf : ∀ (fn : Fn) (first cap : Array Value) (w : World), (Instr.makeFunc fn first cap).run Tryd.prog w = .ok (.func fn first cap) w := fun _ _ _ _ => rfl
  rw [Tryd.ntmps37] at hs
  refine wp_region ?_
  have e9 : ∀ v : Value, (a.tmps.setIfInBounds 9 v).getD 9 undef = v := fun v => by simp [Array.getD, hs]
  simp [wpOps, wpOp, Oper.wp, execOp, go_sem, hmf, Region.wanted, resolve, Deferred.ofValue, Act.put, Act.eval, Oper.upon, hs]
  exact .inl (.inl (by simpa [dfA, dfR, Act.put, hs] using h))

def rdS0 (s : ByteArray) : St := ⟨[(4, .ptr 4 0), (3, .ptr 3 0), (2, .ptr 2 0), (0, .str s)], [(2, .box [.int .i64 0, .int .i64 0, .int .i64 0]), (3, .box [.int .u8 0]), (4, .box [.int .i64 0])]⟩
def rdObjs : List (Nat × AObj) := [(1002, .box [.int .i64 0, .int .i64 0, .int .i64 0]), (1003, .box [.int .u8 0]), (1004, .box [.int .i64 0])]
def rdS1 (s : ByteArray) : St := ⟨[(4, .ptr 1004 0), (3, .ptr 1003 0), (2, .ptr 1002 0), (0, .str s)], rdObjs⟩

/-- From the beginning to the deferred call's place. -/
theorem read_enter {M : Nat → Prop} {W : World} {s : ByteArray} {Post : Ending → World → Prop} (hM : ∀ b, M b → b < W.heap.size) (hG : GR G M W)
    (h : ∀ (R : Run) (a : Act) (W1 : World) (κ : Nat → Option (Nat × Nat)), R.G = G → R.N = Tryd.f37.ntmps → R.D = a.defers → SK R (rdS1 s) a W1 κ → (∀ b, M b → R.M b) → (∀ b, M b → ¬ R.X b) → Ext W W1 → R.W0 = W1 →
      (∀ b, R.X b → W.heap.size ≤ b) →
      (∃ b2 b3 b4, κ 1002 = some (b2, 0) ∧ κ 1003 = some (b3, 0) ∧ κ 1004 = some (b4, 0) ∧ R.E0.loc 1002 = some (b2, 0) ∧ R.E0.loc 1003 = some (b3, 0) ∧ R.E0.loc 1004 = some (b4, 0) ∧
        R.E0.row 1002 = none ∧ R.E0.row 1003 = none ∧ R.E0.row 1004 = none ∧
        a.defers = [{ target := .fn (.func 67) #[.pointer (some ⟨b2, 0, none⟩), .pointer (some ⟨b3, 0, none⟩), .pointer (some ⟨b4, 0, none⟩)], args := #[] }]) →
      ∀ c2, okCode Tryd.prog Tryd.f37.ntmps c2 rc_Read_rest = true → c2.wp Tryd.prog (bodyPostD Tryd.prog Tryd.f37 Post) a W1) :
    Calls Tryd.prog 37 #[.string s] W Post := by
  obtain ⟨c0, c1, c2, hb, k0, k2, h1⟩ := rd_split
  refine calls_of_wp_defers Tryd.func37 hb ?_
  have hs0 := SK_start (N := Tryd.f37.ntmps) (args := [.str s]) (vs := #[.string s]) hM hG rfl (fun i x u hx hu => by
    match i, hx, hu with
    | 0, hx, hu => cases hx; cases hu; exact .str _) (Nat.le_of_ble_eq_true rfl)
  have hA : AR Tryd.prog (runOf G M W Tryd.f37.ntmps) rc_Read_0 (initSt [.str s]) (fun e st => e = .normal ∧ st = rdS0 s) := by
    refine GO_AR mixed 1000 ?_
    simp -implicitDefEqProofs [rc_Read_0]
    rfl
  refine wp_seq (wp_mono (hA c0 k0 _ W ⟨_, hs0⟩) ?_)
  rintro e a W1 ⟨st, ⟨rfl, rfl⟩, κ, hk⟩
  refine wp_seq (h1 _ a W1 hk.size ?_)
  have get : ∀ k o, lk rdObjs k = some o → (rdS0 s).get (k - 1000) = some (o.ren fun k => k - 1000) := fun k o ho => by
    simp only [rdObjs, lk] at ho
    split at ho
    · rename_i e; subst e; cases ho; simp [rdS0, St.get, lk, AObj.ren, AV.ren]
    · split at ho
      · rename_i e; subst e; cases ho; simp [rdS0, St.get, lk, AObj.ren, AV.ren]
      · split at ho
        · rename_i e; subst e; cases ho; simp [rdS0, St.get, lk, AObj.ren, AV.ren]
        · cases ho
  have isk : ∀ k, isK rdObjs k = true → k = 1002 ∨ k = 1003 ∨ k = 1004 := fun k hk => by
    simp only [isK, rdObjs, lk] at hk
    split at hk
    · rename_i e; exact .inl e.symm
    · split at hk
      · rename_i e; exact .inr (.inl e.symm)
      · split at hk
        · rename_i e; exact .inr (.inr e.symm)
        · simp at hk
  obtain ⟨hB, conv⟩ := enterB hk (objs := rdObjs) (ρ := fun k => k - 1000) (fun k hk => by rcases isk k hk with e | e | e <;> omega) (fun k k' h1 h2 e => by rcases isk k h1 with e1 | e1 | e1 <;> rcases isk k' h2 with e2 | e2 | e2 <;> omega) get (fun k o ho => by
    simp only [rdObjs, lk] at ho
    repeat' split at ho
    all_goals first
      | (cases ho; intro x hx; simp at hx; rcases hx with rfl | rfl | rfl <;> simp [inK, AV.keys])
      | (cases ho; intro x hx; simp at hx; subst hx; simp [inK, AV.keys])
      | cases ho)
  have old : ∀ b, (∃ k s, kC rdObjs (fun k => k - 1000) κ k = some (b, s)) → W.heap.size ≤ b := fun b ⟨k, s', hk'⟩ => by
    simp only [kC] at hk'
    split at hk'
    · obtain ⟨o, ho⟩ := hk.dom _ _ hk'
      obtain ⟨b', s2, g1, g2, g3, -⟩ := hk.obj _ _ ho
      rw [hk'] at g1
      simp only [Option.some.injEq, Prod.mk.injEq] at g1
      obtain ⟨rfl, rfl⟩ := g1
      rcases g3 with g3 | g3
      · exact g3
      · exact g3.elim
    · cases hk'
  have loc : ∀ (k : Nat) (cs : List AV), (rdS0 s).get k = some (.box cs) → ∃ b, κ k = some (b, 0) := fun k cs hg => by
    obtain ⟨b, s2, g1, -, -, g4, -⟩ := hk.obj k _ hg
    exact ⟨b, by rw [g1, g4]⟩
  obtain ⟨b2, e2⟩ := loc 2 _ rfl
  obtain ⟨b3, e3⟩ := loc 3 _ rfl
  obtain ⟨b4, e4⟩ := loc 4 _ rfl
  have ptr : ∀ (k b : Nat), κ k = some (b, 0) → (rdS0 s).tmp k = some (.ptr k 0) → a.tmps.getD k undef = .pointer (some ⟨b, 0, none⟩) := fun k b hb ht => by
    obtain ⟨b', s', g1, -, g2⟩ := (hk.tm k _ ht).ptr_inv
    rw [show ((rdS0 s).env (runOf G M W Tryd.f37.ntmps).M κ).loc k = κ k from rfl, hb] at g1
    simp only [Option.some.injEq, Prod.mk.injEq] at g1
    obtain ⟨rfl, rfl⟩ := g1
    exact g2
  have hd : (dfA a).defers = [{ target := .fn (.func 67) #[.pointer (some ⟨b2, 0, none⟩), .pointer (some ⟨b3, 0, none⟩), .pointer (some ⟨b4, 0, none⟩)], args := #[] }] := by
    simp only [dfA, dfR, ptr 2 b2 e2 rfl, ptr 3 b3 e3 rfl, ptr 4 b4 e4 rfl, hk.defers]
    rfl
  have same : ∀ n, n ≠ 9 → (dfA a).tmps.getD n undef = a.tmps.getD n undef := fun n hn => by
    simp only [dfA, Act.put, Array.getD_eq_getD_getElem?, Array.getElem?_setIfInBounds, if_neg (show ¬ 9 = n from fun e => hn e.symm)]
  have c1 : kC rdObjs (fun k => k - 1000) κ 1002 = some (b2, 0) := e2
  have c3 : kC rdObjs (fun k => k - 1000) κ 1003 = some (b3, 0) := e3
  have c4 : kC rdObjs (fun k => k - 1000) κ 1004 = some (b4, 0) := e4
  have h2 : SK { rC rdObjs (fun k => k - 1000) (runOf G M W Tryd.f37.ntmps) (rdS0 s) κ W1 with N := Tryd.f37.ntmps, D := (dfA a).defers } (rdS1 s) (dfA a) W1 (kC rdObjs (fun k => k - 1000) κ) := by
    refine ⟨rfl, by show (dfA a).tmps.size = _; simp only [dfA, Act.put, Array.size_setIfInBounds]; exact hk.size, fun n x hx => ?_, hB.obj, hB.dom, hB.inj, hB.low, hB.apart, hB.kp, hB.gr, hB.mono, hB.ent⟩
    have key : ∀ (m : Nat) (y z : AV), m ≠ 9 → (rdS0 s).tmp m = some z → y.ren (fun k => k - 1000) = z → inK rdObjs y → VR ((rdS1 s).env (mC rdObjs (fun k => k - 1000) (runOf G M W Tryd.f37.ntmps) (rdS0 s) κ) (kC rdObjs (fun k => k - 1000) κ)) W1 y ((dfA a).tmps.getD m undef) := fun m y z hm hz hy hin => by
      rw [same m hm]
      exact conv y _ hin (by rw [hy]; exact hk.tm m z hz)
    simp only [St.tmp, rdS1, lk] at hx
    split at hx
    · rename_i e; subst e; cases hx; exact key 4 _ _ (by omega) rfl (by simp [AV.ren]) (by simp [inK, AV.keys, isK, rdObjs, lk])
    · split at hx
      · rename_i e; subst e; cases hx; exact key 3 _ _ (by omega) rfl (by simp [AV.ren]) (by simp [inK, AV.keys, isK, rdObjs, lk])
      · split at hx
        · rename_i e; subst e; cases hx; exact key 2 _ _ (by omega) rfl (by simp [AV.ren]) (by simp [inK, AV.keys, isK, rdObjs, lk])
        · split at hx
          · rename_i e; subst e; cases hx; exact key 0 _ _ (by omega) rfl (by simp [AV.ren]) (by simp [inK, AV.keys])
          · cases hx
  exact h _ (dfA a) W1 _ rfl rfl rfl h2 (fun b hb => ⟨.inl hb, fun hx => Nat.lt_irrefl _ (Nat.lt_of_lt_of_le (hM b hb) (old b hx))⟩) (fun b hb hx => Nat.lt_irrefl _ (Nat.lt_of_lt_of_le (hM b hb) (old b hx)))
    ⟨hk.kp.os, hk.kp.tape, hk.kp.output, hk.kp.size, fun i hi => hk.kp.block i hi (fun h => h)⟩ rfl old ⟨b2, b3, b4, c1, c3, c4, c1, c3, c4, rfl, rfl, rfl, hd⟩ c2 k2
end
end Go.Proofs.YtikjooemblpnbaaDoor

/-! size.Read, of a text that is a size: what it reads. -/
namespace Go.Proofs.YtikjooemblpnbaaDoor
open Go.RowKit

/-- The size that a text is in a unit. -/
def rdD (k : Int) (n a b : Int) : Dm := ⟨n * stp k, (n + a) * stp k, (n + b) * stp k⟩

theorem splitB_le (sep : ByteArray) : ∀ (k : Nat) (s x : ByteArray), x ∈ Lib.splitB sep 0 k s → x.size ≤ s.size
  | 0, s, x, h => by rw [Lib.splitB_zero] at h; rw [List.mem_singleton.1 h]; exact Nat.le_refl _
  | k + 1, s, x, h => by
    unfold Lib.splitB at h
    split at h
    · rw [List.mem_singleton.1 h]; exact Nat.le_refl _
    · rcases List.mem_cons.1 h with rfl | h
      · rw [ByteArray.size_extract]; omega
      · have := splitB_le sep k _ x h
        rw [ByteArray.size_extract] at this; omega

theorem devV_bd {bh : Nat} (hb : bh ≤ 4) {s : ByteArray} {n : Int} (h : devV bh s = some n) : -10000000000 ≤ n ∧ n ≤ 10000000000 := by
  unfold devV at h
  split at h
  · cases h
  · split at h
    · have := numV_bd hb h; omega
    · split at h
      · split at h <;> try (cases h; done)
        rename_i m hm
        split at h <;> simp only [Option.some.injEq, reduceCtorEq] at h
        have := numV_bd hb hm; omega
      · cases h

def rdPost (d : Dm) (k : Int) : Exit → St → Prop := fun e st => e = .ret ∧ st.tmp 2 = some (.ptr 1002 0) ∧ st.tmp 3 = some (.ptr 1003 0) ∧ st.tmp 4 = some (.ptr 1004 0) ∧
  st.get 1002 = some (.box [.int .i64 d.n, .int .i64 d.l, .int .i64 d.u]) ∧ st.get 1003 = some (.box [.int .u8 k]) ∧ st.get 1004 = some (.box [.int .i64 0])

/-- The loop's state ahead of round i. -/
def rdL (rows : List (List AV)) (i : Int) (d : Dm) (u : Int) : St := ⟨[(17, .int .i64 i), (16, .agg unitsT), (5, .vsl rows), (4, .ptr 1004 0), (3, .ptr 1003 0), (2, .ptr 1002 0)],
  [(1002, .box [.int .i64 d.n, .int .i64 d.l, .int .i64 d.u]), (1003, .box [.int .u8 u]), (1004, .box [.int .i64 0])]⟩

theorem ARn_weak {P : Program} {R : Run} {c : RCode} {Φ : Exit → St → Prop} {m : Nat} {st st' : St} (hw : Weak st st') (h : ARn P R c Φ m st') : ARn P R c Φ m st := by
  cases m with
  | zero => exact h
  | succ m => exact AR_weak hw h

theorem wr1 : IntKind.i64.wrap 1 = 1 := rfl
theorem wr2 : IntKind.i64.wrap 2 = 2 := rfl
theorem wr3 : IntKind.i64.wrap 3 = 3 := rfl
theorem mm_in : (nameMm.toList == nameIn.toList) = false := by kernel_rfl
theorem in_mm : (nameIn.toList == nameMm.toList) = false := by kernel_rfl

section
variable {R : Run} {Φ : Exit → St → Prop} {m : Nat} {w0 w1 w2 w3 : ByteArray} {d : Dm} {u : Int}

theorem round0 (h : ARn Tryd.prog R rc_Read_rest_loop Φ m (rdL [[.str w0], [.str w1], [.str w2], [.str w3]] 1 d u)) : ARn Tryd.prog R rc_Read_rest_loop Φ (m + 1) (rdL [[.str w0], [.str w1], [.str w2], [.str w3]] 0 d u) := by
  unfold ARn
  refine GO_AR mixed 1000 ?_
  simp -implicitDefEqProofs [rdL, unitsT, rc_Read_rest_loop, wr1]
  refine ⟨rfl, ARn_weak ?_ h⟩
  exact Weak.sub (by simp [rdL, lk, keptA, AV.keys, unitsT]) (by simp [rdL, lk, keptO, keptA, AV.keys]) (by simp [rdL, lk])
theorem round1 (hw : (nameMm.toList == w3.toList) = false) (h : ARn Tryd.prog R rc_Read_rest_loop Φ m (rdL [[.str w0], [.str w1], [.str w2], [.str w3]] 2 d u)) : ARn Tryd.prog R rc_Read_rest_loop Φ (m + 1) (rdL [[.str w0], [.str w1], [.str w2], [.str w3]] 1 d u) := by
  unfold ARn
  refine GO_AR mixed 1000 ?_
  simp -implicitDefEqProofs [rdL, unitsT, rc_Read_rest_loop, wr2, hw]
  refine ⟨rfl, ARn_weak ?_ h⟩
  exact Weak.sub (by simp [rdL, lk, keptA, AV.keys, unitsT]) (by simp [rdL, lk, keptO, keptA, AV.keys]) (by simp [rdL, lk])
theorem round2 (hw : (nameIn.toList == w3.toList) = false) (h : ARn Tryd.prog R rc_Read_rest_loop Φ m (rdL [[.str w0], [.str w1], [.str w2], [.str w3]] 3 d u)) : ARn Tryd.prog R rc_Read_rest_loop Φ (m + 1) (rdL [[.str w0], [.str w1], [.str w2], [.str w3]] 2 d u) := by
  unfold ARn
  refine GO_AR mixed 1000 ?_
  simp -implicitDefEqProofs [rdL, unitsT, rc_Read_rest_loop, wr3, hw]
  refine ⟨rfl, ARn_weak ?_ h⟩
  exact Weak.sub (by simp [rdL, lk, keptA, AV.keys, unitsT]) (by simp [rdL, lk, keptO, keptA, AV.keys]) (by simp [rdL, lk])
theorem round3 (h : Φ (.exit 0) ((rdL [[.str w0], [.str w1], [.str w2], [.str w3]] 3 d u).put 18 (.bool false))) : ARn Tryd.prog R rc_Read_rest_loop Φ (m + 1) (rdL [[.str w0], [.str w1], [.str w2], [.str w3]] 3 d u) := by
  unfold ARn
  refine GO_AR mixed 1000 ?_
  simp -implicitDefEqProofs [rdL, unitsT, rc_Read_rest_loop]
  exact h

theorem hit1 (hg : Gs R.G) {n a b : Int} (hn : numV 3 w0 = some n) (ha : devV 3 w1 = some a) (hb : devV 3 w2 = some b) (l0 : w0.size < 4294967281) (l1 : w1.size < 4294967281) (l2 : w2.size < 4294967281)
    (h : ARn Tryd.prog R rc_Read_rest_loop Φ m (rdL [[.str w0], [.str w1], [.str w2], [.str nameMm]] 2 (rdD 1 n a b) 1)) : ARn Tryd.prog R rc_Read_rest_loop Φ (m + 1) (rdL [[.str w0], [.str w1], [.str w2], [.str nameMm]] 1 d u) := by
  have n0 := numV_bd (by omega) hn
  have a0 := devV_bd (by omega) ha
  have b0 := devV_bd (by omega) hb
  have v1 : IntKind.i64.wrap (n * 100) = n * 100 := wrapI (by omega) (by omega)
  have v2 : IntKind.i64.wrap (n + a) = n + a := wrapI (by omega) (by omega)
  have v3 : IntKind.i64.wrap ((n + a) * 100) = (n + a) * 100 := wrapI (by omega) (by omega)
  have v4 : IntKind.i64.wrap (n + b) = n + b := wrapI (by omega) (by omega)
  have v5 : IntKind.i64.wrap ((n + b) * 100) = (n + b) * 100 := wrapI (by omega) (by omega)
  have v6 : IntKind.u8.wrap 1 = 1 := rfl
  have e : (nameMm.toList == nameMm.toList) = true := by simp
  unfold ARn
  refine GO_AR mixed 1000 ?_
  simp -implicitDefEqProofs [rdL, unitsT, rc_Read_rest_loop, wr2, e]
  refine ⟨rfl, ?_⟩
  (first | refine CallK.of (number_pc hg 100 3 nameMm 143 (by omega) w0 l0 n hn) (by simp) ?_ | refine CallD.of (number_pc hg 100 3 nameMm 143 (by omega) w0 l0 n hn) (by simp) ?_)
  simp -implicitDefEqProofs [v1]
  refine ⟨rfl, ?_⟩
  (first | refine CallK.of (deviation_pc hg 100 3 nameMm 143 (by omega) w1 l1 a ha) (by simp) ?_ | refine CallD.of (deviation_pc hg 100 3 nameMm 143 (by omega) w1 l1 a ha) (by simp) ?_)
  simp -implicitDefEqProofs [v1, v2, v3]
  (first | refine CallK.of (deviation_pc hg 100 3 nameMm 143 (by omega) w2 l2 b hb) (by simp) ?_ | refine CallD.of (deviation_pc hg 100 3 nameMm 143 (by omega) w2 l2 b hb) (by simp) ?_)
  simp -implicitDefEqProofs [v1, v2, v3, v4, v5, v6, wr2]
  refine ⟨rfl, ARn_weak ?_ h⟩
  exact Weak.sub (by simp [rdL, lk, keptA, AV.keys, unitsT]) (by simp [rdL, lk, keptO, keptA, AV.keys, rdD, stp]) (by simp [rdL, lk])
theorem hit2 (hg : Gs R.G) {n a b : Int} (hn : numV 4 w0 = some n) (ha : devV 4 w1 = some a) (hb : devV 4 w2 = some b) (l0 : w0.size < 4294967281) (l1 : w1.size < 4294967281) (l2 : w2.size < 4294967281)
    (h : ARn Tryd.prog R rc_Read_rest_loop Φ m (rdL [[.str w0], [.str w1], [.str w2], [.str nameIn]] 3 (rdD 2 n a b) 2)) : ARn Tryd.prog R rc_Read_rest_loop Φ (m + 1) (rdL [[.str w0], [.str w1], [.str w2], [.str nameIn]] 2 d u) := by
  have n0 := numV_bd (by omega) hn
  have a0 := devV_bd (by omega) ha
  have b0 := devV_bd (by omega) hb
  have v1 : IntKind.i64.wrap (n * 254) = n * 254 := wrapI (by omega) (by omega)
  have v2 : IntKind.i64.wrap (n + a) = n + a := wrapI (by omega) (by omega)
  have v3 : IntKind.i64.wrap ((n + a) * 254) = (n + a) * 254 := wrapI (by omega) (by omega)
  have v4 : IntKind.i64.wrap (n + b) = n + b := wrapI (by omega) (by omega)
  have v5 : IntKind.i64.wrap ((n + b) * 254) = (n + b) * 254 := wrapI (by omega) (by omega)
  have v6 : IntKind.u8.wrap 2 = 2 := rfl
  have e : (nameIn.toList == nameIn.toList) = true := by simp
  unfold ARn
  refine GO_AR mixed 1000 ?_
  simp -implicitDefEqProofs [rdL, unitsT, rc_Read_rest_loop, wr3, e]
  refine ⟨rfl, ?_⟩
  (first | refine CallK.of (number_pc hg 254 4 nameIn 143 (by omega) w0 l0 n hn) (by simp) ?_ | refine CallD.of (number_pc hg 254 4 nameIn 143 (by omega) w0 l0 n hn) (by simp) ?_)
  simp -implicitDefEqProofs [v1]
  refine ⟨rfl, ?_⟩
  (first | refine CallK.of (deviation_pc hg 254 4 nameIn 143 (by omega) w1 l1 a ha) (by simp) ?_ | refine CallD.of (deviation_pc hg 254 4 nameIn 143 (by omega) w1 l1 a ha) (by simp) ?_)
  simp -implicitDefEqProofs [v1, v2, v3]
  (first | refine CallK.of (deviation_pc hg 254 4 nameIn 143 (by omega) w2 l2 b hb) (by simp) ?_ | refine CallD.of (deviation_pc hg 254 4 nameIn 143 (by omega) w2 l2 b hb) (by simp) ?_)
  simp -implicitDefEqProofs [v1, v2, v3, v4, v5, v6, wr3]
  refine ⟨rfl, ARn_weak ?_ h⟩
  exact Weak.sub (by simp [rdL, lk, keptA, AV.keys, unitsT]) (by simp [rdL, lk, keptO, keptA, AV.keys, rdD, stp]) (by simp [rdL, lk])
end

theorem read_ar (R : Run) (hg : Gs R.G) (s w0 w1 w2 : ByteArray) (k n a b : Int) (hs : s.size < 4294967281) (hw : wordsV s = [w0, w1, w2, nmV k]) (hk : k = 1 ∨ k = 2) (hn : numV (bhV k) w0 = some n) (ha : devV (bhV k) w1 = some a) (hb : devV (bhV k) w2 = some b)
    (hv : vd (rdD k n a b) = true) : AR Tryd.prog R rc_Read_rest (rdS1 s) (rdPost (rdD k n a b) k) := by
  have hle : ∀ x ∈ wordsV s, x.size < 4294967281 := fun x hx => Nat.lt_of_le_of_lt (splitB_le _ _ _ _ hx) hs
  rw [hw] at hle
  have l0 := hle w0 (by simp)
  have l1 := hle w1 (by simp)
  have l2 := hle w2 (by simp)
  have hU := hg.1
  have hk0 : 0 < k := by omega
  refine GO_AR mixed 1000 ?_
  simp -implicitDefEqProofs [rc_Read_rest, rdS1, rdObjs]
  (first | refine CallK.of (split_pc hg s hs) (by simp) ?_ | refine CallD.of (split_pc hg s hs) (by simp) ?_)
  rw [hw]
  simp -implicitDefEqProofs [strRows]
  (first | refine CallK.of (must_pc) (by simp) ?_ | refine CallD.of (must_pc) (by simp) ?_)
  simp -implicitDefEqProofs [hU, unitsT]
  refine AR_rounds 4 ?_
  refine ARn_weak (st' := rdL [[.str w0], [.str w1], [.str w2], [.str (nmV k)]] 0 ⟨0, 0, 0⟩ 0) (Weak.sub (by simp [rdL, lk, keptA, AV.keys, unitsT]) (by simp [rdL, lk, keptO, keptA, AV.keys]) (by simp [rdL, lk])) ?_
  refine round0 ?_
  rcases hk with rfl | rfl
  · refine hit1 hg hn ha hb l0 l1 l2 (round2 in_mm (round3 ?_))
    refine GO_ret mixed 1000 ?_
    simp -implicitDefEqProofs [rdL]
    (first | refine CallK.of (checkS_pc (rdD 1 n a b)) (by simp) ?_ | refine CallD.of (checkS_pc (rdD 1 n a b)) (by simp) ?_)
    simp -implicitDefEqProofs [chk, hv]
    (first | refine CallK.of (must_pc) (by simp) ?_ | refine CallD.of (must_pc) (by simp) ?_)
    simp -implicitDefEqProofs [rdPost]
    rfl
  · refine round1 mm_in (hit2 hg hn ha hb l0 l1 l2 (round3 ?_))
    refine GO_ret mixed 1000 ?_
    simp -implicitDefEqProofs [rdL]
    (first | refine CallK.of (checkS_pc (rdD 2 n a b)) (by simp) ?_ | refine CallD.of (checkS_pc (rdD 2 n a b)) (by simp) ?_)
    simp -implicitDefEqProofs [chk, hv]
    (first | refine CallK.of (must_pc) (by simp) ?_ | refine CallD.of (must_pc) (by simp) ?_)
    simp -implicitDefEqProofs [rdPost]
    rfl
end Go.Proofs.YtikjooemblpnbaaDoor

/-! size.Read as a contract, of a text that is a size. -/
namespace Go.Proofs.YtikjooemblpnbaaDoor
open Go.RowKit

section
variable {G : Nat → Option (List AV)}
theorem readS_pc (hg : Gs G) (s w0 w1 w2 : ByteArray) (k n a b : Int) (hs : s.size < 4294967281) (hw : wordsV s = [w0, w1, w2, nmV k]) (hk : k = 1 ∨ k = 2) (hn : numV (bhV k) w0 = some n) (ha : devV (bhV k) w1 = some a) (hb : devV (bhV k) w2 = some b)
    (hv : vd (rdD k n a b) = true) : PC Tryd.prog G 37 [.str s] (.tup [.agg [.int .i64 (rdD k n a b).n, .int .i64 (rdD k n a b).l, .int .i64 (rdD k n a b).u], .int .u8 k, .int .i64 0]) := by
  refine ⟨by kernel_rfl, fun M W vs hM hG hz hv' => ?_⟩
  obtain ⟨l⟩ := vs
  match l, hz, hv' with
  | [x0], _, hv' =>
    rw [(hv' 0 _ x0 rfl rfl).str_inv]
    refine read_enter hM hG fun R a' W1 κ hRG hN hD hk' hMM hMX hE hW0 hXo hloc c2 k2 => ?_
    obtain ⟨b2, b3, b4, -, -, -, -, -, -, -, -, -, hd⟩ := hloc
    subst hRG
    refine wp_mono (read_ar R hg s w0 w1 w2 k n a b hs hw hk hn ha hb hv c2 (by rw [hN]; exact k2) a' W1 ⟨κ, hk'⟩) ?_
    rintro e a2 W2 ⟨st, ⟨rfl, t2, t3, t4, g2, g3, g4⟩, κ2, hk2⟩
    show Leaves _ _ _ _ _ _ _
    rw [hk2.defers, hD, hd]
    refine leaves_cons (f := 67) (args := #[.pointer (some ⟨b2, 0, none⟩), .pointer (some ⟨b3, 0, none⟩), .pointer (some ⟨b4, 0, none⟩)]) (by simp) (by simp [go_sem]) ((catch_idle _ _ _ W2).mono ?_)
    rintro e u' w' ⟨rfl, rfl, rfl⟩
    obtain ⟨u, hu, hvr⟩ := results_of hk2 (rs := rr_Read) (fn := Tryd.f37) (P := Tryd.prog) (by kernel_rfl) (xs := [.agg [.int .i64 (rdD k n a b).n, .int .i64 (rdD k n a b).l, .int .i64 (rdD k n a b).u], .int .u8 k, .int .i64 0]) (by
      simp only [rr_Read, evRess, evRes, t2, t3, t4, cellsAt, g2, g3, g4]
      rfl)
    refine ⟨u, hu, u, rfl, (hvr.toPV (by simp [tupV, AV.pure])).flat (by simp [tupV, AV.flat]), ?_⟩
    have hkp := hk2.kp
    rw [hW0] at hkp
    exact ⟨hkp.os.trans hE.os, hkp.tape.trans hE.tape, hkp.output.trans hE.output, Nat.le_trans hE.size hkp.size, fun i hi => (hkp.block i (Nat.lt_of_lt_of_le hi hE.size) (fun hx => by have := hXo i hx; omega)).trans (hE.block i hi)⟩
end
end Go.Proofs.YtikjooemblpnbaaDoor
