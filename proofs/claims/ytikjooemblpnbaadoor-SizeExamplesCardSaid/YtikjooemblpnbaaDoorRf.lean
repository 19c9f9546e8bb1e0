/-
  A range over a function whose iterator writes a box of its own (captured) between two rounds. Plain (the wide fence). My own law,
  after the shape of the kit's laws for such loops: the invariant goes by the number of rounds; each round keeps all but the blocks of X.
-/
import Derived.RangeFuncNested
import Derived.RangeFuncBound
import Derived.RangeFuncCalls
import Derived.RangeFuncLeaves
import Derived.WalkKit
import Derived.OwnWalkIn
import Derived.TacticsInMore
import Derived.LoopNIn
import Derived.LoopIn
import Derived.Test.YtikjooemblpnbaaDoorReg
namespace Go.Proofs.YtikjooemblpnbaaDoor
open Go.RowKit

theorem Kp.putObj {X : Nat → Prop} {w w' : World} (h : Kp X w w') {l : Nat} (hp : X l) (o : Obj) : Kp X w (w'.putObj l o) :=
  ⟨h.os, h.tape, h.output, by simpa using h.size, fun i hi hx => by rw [World.putObj_heap_other (by intro e; subst e; exact hx hp)]; exact h.block i hi hx⟩
theorem Kp.more {X Y : Nat → Prop} {w w' : World} (h : Kp X w w') (hxy : ∀ j, X j → Y j) : Kp Y w w' :=
  ⟨h.os, h.tape, h.output, h.size, fun i hi hx => h.block i hi (fun e => hx (hxy _ e))⟩

theorem wp_rangeFunc_steps {n : Nat} {P : Program} {g : Operand} {ps : Array Tmp} {assign body : Code} {Q : Exit → Act → World → Prop} {a : Act} {w : World}
    {gf : Nat} {lb : Array Value} (hg : a.eval g = .func (.func gf) #[] lb) (eg : ∀ args w, (callFunc gf args).run P w = .ok (.enter gf args) w)
    (X : Nat → Prop) (hX : ∀ j, X j → j < w.heap.size) (encs : Nat → Array Value) (hps : ∀ k, (encs k).size = ps.size)
    (I : Nat → World → Prop) (hI : OwnFrom w.heap.size I) (h0 : I 0 w) (S : Nat → Prop) (N : Nat)
    (hseq : ∀ (l D : Nat) (lo dO : Obj) (W : World), w.heap.size ≤ l → w.heap.size ≤ D → I 0 W → Ext w W → W.heap[l]? = some lo → W.heap[D]? = some dO →
      (∀ k W1, I k W1 → k < N → W1.heap[l]? = some lo → W1.heap[D]? = some dO → YieldAt Fence.wide (n - 1 - 1) P l (encs k) W1 fun e W' =>
        e = .returned (.bool true) ∧ I (k + 1) W' ∧ W'.heap[l]? = some lo ∧ W'.heap[D]? = some dO ∧ Kp (fun j => X j ∨ j = l) W1 W') →
      CallsIn Fence.wide (n - 1) P gf (#[.func (.yield l) #[] #[]] ++ lb) W fun e W' => (∃ v, e = .returned v) ∧ ∃ k, S k ∧ I k W' ∧ W'.heap[l]? = some lo ∧ W'.heap[D]? = some dO)
    (Ax : Nat → Act → World → Prop) (hAx : ∀ k, OwnFrom w.heap.size (Ax k))
    (hassign : ∀ (l k : Nat) (W : World), I k W → k < N →
      assign.wpIn (Fence.wide.inRound l) (n - 1 - 1) P (Exit.then (fun a1 W1 => Ax k a1 W1 ∧ Kp (fun _ => False) W W1) (fun _ _ _ => False)) { tmps := (ps.zip (encs k)).foldl (fun t (p, v) => t.setIfInBounds p v) a.tmps, defers := [] } W)
    (hbody : ∀ (l k : Nat) (a1 : Act) (W : World), w.heap.size ≤ l → Ax k a1 W → k < N →
      body.wpIn (Fence.wide.inRound l) (n - 1 - 1) P (fun e _ W' => e = .normal ∧ Kp X W W' ∧ I (k + 1) W') a1 W)
    (hdone : ∀ (D k : Nat) (W : World), w.heap.size ≤ D → S k → I k W → W.heap[D]? = some (.deferred (some [])) → Q .normal { a with defers := { target := .collected D, args := #[] } :: a.defers } W)
    (hn : 1 ≤ n) : (Code.rangeFunc g ps assign body).wpIn Fence.wide n P Q a w := by
  refine wpIn_rangeFunc ?_
  intro fn hfn
  obtain ⟨rec, hrec⟩ : ∃ rec : LoopState → Option Code → Loop, rec = fun st pe => { state := st, pending := pe, fn, tmps := a.tmps, params := ps, assign, body, defers := w.heap.size } := ⟨_, rfl⟩
  obtain ⟨W1, hW1⟩ : ∃ W1, (w.alloc (.deferred (some []))).alloc (.loop (rec .ready none)) = W1 := ⟨_, rfl⟩
  have hE1 : Ext w W1 := by rw [← hW1]; exact (Ext.refl w).al.al
  have hL1 : W1.heap[w.heap.size + 1]? = some (.loop (rec .ready none)) := by
    rw [← hW1]; have := World.alloc_heap_new (w.alloc (.deferred (some []))) (.loop (rec .ready none)); rwa [World.size_alloc] at this
  have hK1 : W1.heap[w.heap.size]? = some (.deferred (some [])) := by
    rw [← hW1]; exact (Below.heap_alloc _ _ _ (by simp)).trans (World.alloc_heap_new w _)
  have hI1 : I 0 W1 := by rw [← hW1]; exact hI.alloc _ (hI.alloc _ h0)
  refine ⟨w.heap.size + 1, [{ target := .collected w.heap.size, args := #[] }], W1, { target := .fn (.func gf) lb, args := #[.func (.yield (w.heap.size + 1)) #[] #[]] }, W1, gf,
    #[.func (.yield (w.heap.size + 1)) #[] #[]] ++ lb, W1, ?_, ?_, ?_, ?_, fun _ => hn, ?_⟩
  · rw [← hW1, hrec]; exact run_enterLoop_outer _ _ _ _ _
  · simp only [resolve, hg]
    simp [go_sem]
  · intro f' _; trivial
  · simp [invoke, go_sem, eg]
  · refine (hseq (w.heap.size + 1) w.heap.size _ _ W1 (by omega) (by omega) hI1 hE1 hL1 hK1 ?_).mono ?_
    · intro k W hi hlt hl hk
      have hls : w.heap.size + 1 < W.heap.size := (Array.getElem?_eq_some_iff.1 hl).1
      have hy := run_yield (P := P) (args := encs k) hl (by rw [hrec]; exact hps k)
      rw [hrec] at hy
      refine ⟨fn, _, assign, body, hy, roundIn_of_wpIn hfn (wpIn_mono (hassign _ k W hi hlt) ?_)⟩
      rintro e a1 W2 hp
      cases e with
      | normal =>
        obtain ⟨hax, hk2⟩ := hp
        have hl2 : W2.heap[w.heap.size + 1]? = some (.loop (rec .ready none)) := (hk2.block _ hls (fun h => h)).trans hl
        have hd2 : W2.heap[w.heap.size]? = some (.deferred (some [])) := (hk2.block _ (by omega) (fun h => h)).trans hk
        have hls2 : w.heap.size + 1 < W2.heap.size := (Array.getElem?_eq_some_iff.1 hl2).1
        refine ⟨_, run_beginRound hl2 (by rw [hrec]), wpIn_mono (hbody _ k a1 _ (by omega) ((hAx k).putObj _ hax (by omega) hl2 rfl) hlt) ?_⟩
        rintro e a3 W3 ⟨rfl, hk3, hi3⟩
        have hl3 : W3.heap[w.heap.size + 1]? = some (.loop { rec .ready none with state := .busy }) :=
          (hk3.block _ (by simpa using hls2) (fun h => by have := hX _ h; omega)).trans (World.putObj_heap_same hls2)
        have hd3 : W3.heap[w.heap.size]? = some (.deferred (some [])) :=
          (hk3.block _ (by simp; omega) (fun h => by have := hX _ h; omega)).trans ((World.putObj_heap_other (by omega)).trans hd2)
        have hr3 := run_endRound (P := P) none hl3
        refine ⟨_, _, hr3, rfl, hI.putObj _ hi3 (by omega) hl3 rfl, ?_, (World.putObj_heap_other (by omega)).trans hd3, ?_⟩
        · rw [World.putObj_heap_same (Array.getElem?_eq_some_iff.1 hl3).1]
          simp [hrec]
        · have q1 : Kp (fun j => X j ∨ j = w.heap.size + 1) W W2 := hk2.more (fun _ h => h.elim)
          have q2 := q1.putObj (l := w.heap.size + 1) (Or.inr rfl) (.loop { rec .ready none with state := .busy })
          exact (q2.trans (hk3.more (fun _ h => Or.inl h))).putObj (Or.inr rfl) _
      | _ => exact hp.elim
    · rintro e W2 ⟨⟨v, rfl⟩, k, hS, hi, hl, hk⟩
      exact ⟨none, _, by have := run_endLoop (P := P) hl (by rw [hrec]; simp); rw [hrec] at this; exact this, hdone _ k _ (Nat.le_refl _) hS (hI.putObj _ hi (by omega) hl rfl) ((World.putObj_heap_other (by omega)).trans hk)⟩

end Go.Proofs.YtikjooemblpnbaaDoor
