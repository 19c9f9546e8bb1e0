/-
  Slices of sizes and of units; what Same and Meet of package bluelineref01 return.
-/
import Derived.Test.YtikjooemblpnbaaDoorSzE
namespace Go.Proofs.YtikjooemblpnbaaDoor
open Go.RowKit

/-- A slice whose elements are single cells. -/
def Sl1 (W : World) (v : Value) (l : List Value) : Prop :=
  ∃ a cap, v = .slice a l.length cap ∧ (l ≠ [] → ∃ b off, a = some ⟨b, off, none⟩ ∧ b < W.heap.size ∧ ∀ i, i < l.length → W.cell? ⟨b, off + i, none⟩ = l[i]?)

/-- A slice of sizes. -/
def SlD (W : World) (v : Value) (l : List Dm) : Prop :=
  ∃ a cap, v = .slice a l.length cap ∧ l.length ≤ 9223372036854775807 ∧ (l ≠ [] → ∃ b off, a = some ⟨b, off, none⟩ ∧ b < W.heap.size ∧
    ∀ i (h : i < l.length), W.cell? ⟨b, off + i * 3, none⟩ = some (.int .i64 l[i].n) ∧ W.cell? ⟨b, off + i * 3 + 1, none⟩ = some (.int .i64 l[i].l) ∧ W.cell? ⟨b, off + i * 3 + 2, none⟩ = some (.int .i64 l[i].u))

section
open Go
theorem neqDim (w : World) (x y z x' y' z' : Int) : (binOp .neq 23 (.agg #[.int .i64 x, .int .i64 y, .int .i64 z]) (.agg #[.int .i64 x', .int .i64 y', .int .i64 z'])).run Tryd.prog w = .ok (.bool (!(Dm.beq ⟨x, y, z⟩ ⟨x', y', z'⟩))) w := by
  have u3 := Tryd.underlying3
  have a3 := Tryd.isAgg3
  have z3 := Tryd.sizeOf3
  have hS : Tryd.prog.underlying 23 = some (.struct (Tryd.prog.fieldsOf 23)) := by kernel_rfl
  have hp : Tryd.prog.stoodInHeld 23 = false := by kernel_rfl
  rw [run_neq_struct, show (10000 : Nat) = 9999 + 1 from rfl, run_equalIn_agg w 9999 23 _ _ hS hp]
  simp only [Program.fieldsOf, Tryd.underlying23]
  go_simp
  by_cases h1 : x = x' <;> by_cases h2 : y = y' <;> by_cases h3 : z = z' <;> simp [h1, h2, h3, Dm.beq]
theorem eqlDim (w : World) (x y z x' y' z' : Int) : (binOp .eql 23 (.agg #[.int .i64 x, .int .i64 y, .int .i64 z]) (.agg #[.int .i64 x', .int .i64 y', .int .i64 z'])).run Tryd.prog w = .ok (.bool (Dm.beq ⟨x, y, z⟩ ⟨x', y', z'⟩)) w := by
  have u3 := Tryd.underlying3
  have a3 := Tryd.isAgg3
  have z3 := Tryd.sizeOf3
  have hS : Tryd.prog.underlying 23 = some (.struct (Tryd.prog.fieldsOf 23)) := by kernel_rfl
  have hp : Tryd.prog.stoodInHeld 23 = false := by kernel_rfl
  rw [run_eql_struct, show (10000 : Nat) = 9999 + 1 from rfl, run_equalIn_agg w 9999 23 _ _ hS hp]
  simp only [Program.fieldsOf, Tryd.underlying23]
  go_simp
  by_cases h1 : x = x' <;> by_cases h2 : y = y' <;> by_cases h3 : z = z' <;> simp [h1, h2, h3, Dm.beq]
end

theorem sameR_any (va vb : Value) (a b : List Dm) (w : World) (ha : SlD w va a) (hb : SlD w vb b) :
    Calls Tryd.prog 32 #[va, vb] w fun e w' => e = .returned (.bool (Dm.beqs a b)) ∧ Ext w w' := by
  obtain ⟨xa, ca, rfl, hna, ha⟩ := ha
  obtain ⟨xb, cb, rfl, hnb, hb⟩ := hb
  by_cases hl : a.length = b.length
  · have HL := Lib.hid hl
    have hl' : ((a.length : Int) != (b.length : Int)) = false := by simp [hl]
    clear hl
    have hne := neqDim
    have hgd : ∀ (x y : Operand) (xs ys : Array Value) (w : World), (eqGuard .neq 23 x y (.agg xs) (.agg ys)).run Tryd.prog w = .ok () w := fun x y xs ys w => run_eqGuard_agg w .neq _ x y xs ys (by kernel_rfl)
    go_enter Tryd.func32, Tryd.ntmps32
    go_wp2_with fail
    go_loopw [5] (fun i wr => ∃ k : Nat, k ≤ a.length ∧ i = .int .i64 k ∧ Hid (a.take k = b.take k) ∧ Ext w wr) (fun i _ => a.length - (intOf i).toNat)
    case atStart => exact ⟨0, Nat.zero_le _, rfl, Lib.hid (by simp), Ext.refl _⟩
    case round =>
      obtain ⟨k, hk, rfl, heq, hE⟩ := hrel
      by_cases hlt : k < a.length
      · have hltb : k < b.length := by rw [← HL.out]; exact hlt
        obtain ⟨ba, oa, rfl, hba, hca⟩ := ha (by intro h; simp [h] at hlt)
        obtain ⟨bb, ob, rfl, hbb, hcb⟩ := hb (by intro h; simp [h] at hltb)
        have HP := Lib.hid (hca k hlt); have HB := Lib.hid (hcb k hltb)
        have ht : a.take (k + 1) = a.take k ++ [a[k]] := List.take_succ_eq_append_getElem hlt
        have hu : b.take (k + 1) = b.take k ++ [b[k]] := List.take_succ_eq_append_getElem hltb
        have HK : Hid (a[k] = b[k] → a.take (k + 1) = b.take (k + 1)) := fun h => by rw [ht, hu, heq.out, h]
        have HN : Hid (a[k] ≠ b[k] → a ≠ b) := fun h h' => h (by subst h'; rfl)
        clear hca hcb ha hb ht hu
        generalize a[k] = x at *
        generalize b[k] = y at *
        obtain ⟨x0, x1, x2⟩ := x
        obtain ⟨y0, y1, y2⟩ := y
        dsimp only at *
        go_wp2_with fail
        refine wp_region_calm [0, 1, 2, 3, 4, 5, 6, 7, 8] [] (fun _ => False) (by kernel_rfl) (by kernel_rfl) ?_
        have hF := Lib.hid <| show ∀ w4, Kp (fun _ => False) wr.drew w4 → Ext w w4 from fun w4 h4 => hE.dr.thn h4 (fun j hj => hj.elim)
        repeat
          refine walkE_step rfl rfl rfl ?_
          apply Exists.intro
          refine ⟨fun w4 h4 => ?_, ?_, ?_⟩
          · have h5 := hF.out w4 h4; obtain ⟨p0, p1, p2⟩ := HP.out; obtain ⟨q0, q1, q2⟩ := HB.out; rw [← h5.cell (by exact hba)] at p0 p1 p2; rw [← h5.cell (by exact hbb)] at q0 q1 q2
            go_wp2_with (fail)
            exact EPost.intro (Ext.refl _) rfl
          · exact ⟨_, rfl⟩
        refine walkE_nil ?_
        refine walkT_end (fun w5 h5 hk5 => ?_)
        have hE5 := hF.out w5 hk5
        clear h5 hk5 hF
        cases hq : Dm.beq ⟨x0, x1, x2⟩ ⟨y0, y1, y2⟩
        · go_wp2_with fail
          go_ret
          exact ⟨ret_bool (Dm.beqs_false (HN.out fun h => by rw [(Dm.beq_iff _ _).2 h] at hq; cases hq)).symm, hE5⟩
        · go_wp2_with fail
          go_roundw
          case rel => exact ⟨k + 1, by omega, by go_num, Lib.hid (HK.out ((Dm.beq_iff _ _).1 hq)), hE5⟩
          case measure => simp [intOf]; omega
      · go_wp2_with fail
        go_ret
        refine ⟨ret_bool (Dm.beqs_true ?_).symm, hE⟩
        have := heq.out
        rwa [List.take_of_length_le (by omega), List.take_of_length_le (by have := HL.out; omega)] at this
  · have hl' : ((a.length : Int) != (b.length : Int)) = true := by simp; omega
    go_enter Tryd.func32, Tryd.ntmps32
    go_wp2_with fail
    go_ret
    exact ⟨ret_bool (Dm.beqs_false (fun h => hl (by rw [h]))).symm, Ext.refl _⟩

end Go.Proofs.YtikjooemblpnbaaDoor
