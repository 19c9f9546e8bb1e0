/-
  What the rows of layer 1 share: the table of units as the row lists it; a slice of u8 that came in.
-/
import Derived.Test.YtikjooemblpnbaaDoorSzL
import Derived.Test.YtikjooemblpnbaaDoorRow
import Derived.OpenShut
import Derived.Lib.SmallJoins
namespace Go.Proofs.YtikjooemblpnbaaDoor
open Go.ChangeShapes Go.WideShapes Go.ChangeAt Go.WideMaps Go.WideElems Go.RowKit Go.Deep

theorem own : ownKnob Tryd.prog.godebug = none := by kernel_rfl
theorem laidOut : laidOutB Tryd.prog = true := by kernel_rfl
theorem gUnits : Tryd.prog.globalNamed "blueline/size.units" = some 0 := by kernel_rfl
theorem tUnits : (Tryd.prog.globals[0]?).map (·.type) = some 116 := by kernel_rfl

/-- The row's list of variables. -/
def laid1 : List (String × DataW Unit) := [("blueline/size.units", Rows.laid_blueline_size_units)]

/-- A nil function. -/
theorem nil_of_trod {P : Program} {w : World} {base : Nat} {sp : Nat → Bool} {fuel : Nat} {t : TypeId} {ps rs : Array TypeId} {va : Bool} {v : Value} {q : List MemPlace}
    (ht : P.underlying t = some (.func ps rs va)) (h : DataW.trod (funcToken P) P w base sp true fuel t [v] = some (.nil, q)) : v = .nilFunc := by
  cases fuel with
  | zero => simp [DataW.trod] at h
  | succ n => cases v <;> simp [DataW.trod, ht] at h <;> first | rfl | trivial

/-- The door's own heap meets the condition. -/
theorem door_met (os : Os) (args : Array Value) : laidMetH Tryd.prog laid1 ((World.doorLaid Tryd.prog 41 os).forCall (fun _ _ => 0) ⟨#[], args, []⟩).memory :=
  laidMetH_of_parts3 (fuel := 8) (laidMet_of_run' 8 (by kernel_rfl) (by kernel_rfl)) (by kernel_rfl) (by kernel_rfl)

theorem cI : Tryd.prog.cellsOf 3 = 1 := by kernel_rfl
theorem cS : Tryd.prog.cellsOf 9 = 1 := by kernel_rfl
theorem cF : Tryd.prog.cellsOf 95 = 1 := by kernel_rfl
theorem unitC : Tryd.prog.cellsOf 97 = 4 := by kernel_rfl

theorem list12 {α : Type} {l : List α} (h : l.length = 12) : ∃ c0 c1 c2 c3 c4 c5 c6 c7 c8 c9 c10 c11, l = [c0, c1, c2, c3, c4, c5, c6, c7, c8, c9, c10, c11] := by
  match l, h with
  | [c0, c1, c2, c3, c4, c5, c6, c7, c8, c9, c10, c11], _ => exact ⟨c0, c1, c2, c3, c4, c5, c6, c7, c8, c9, c10, c11, rfl⟩

set_option maxRecDepth 100000 in
theorem of_laid_mem {W : World} {laid : List (String × DataW Unit)} (h : laidMetH Tryd.prog laid W) (hm : ("blueline/size.units", Rows.laid_blueline_size_units) ∈ laid) : Units W := by
  obtain ⟨g, t, cs, fuel, p, hg, ht, hv, hd⟩ := h.funcs hm
  obtain rfl := Option.some.inj (gUnits.symm.trans hg)
  obtain rfl := Option.some.inj (tUnits.symm.trans ht)
  have hd' : DataW.trod (funcToken Tryd.prog) Tryd.prog W 0 (fun _ => true) true fuel 116 cs.toList = some (.agg [.agg [.lit (.int .i64 0), .lit (.int .i64 0), .lit (.string []), .nil], .agg [.lit (.int .i64 100), .lit (.int .i64 3), .lit (.string [109, 109]), .held [98, 108, 117, 101, 108, 105, 110, 101, 47, 115, 105, 122, 101, 46, 114, 111, 117, 110, 100, 101, 100]], .agg [.lit (.int .i64 254), .lit (.int .i64 4), .lit (.string [105, 110]), .held [98, 108, 117, 101, 108, 105, 110, 101, 47, 115, 105, 122, 101, 46, 114, 111, 117, 110, 100, 101, 100]]], p) := hd
  obtain ⟨xs, m, rfl, hx, hlen, hn, hel⟩ := DataW.trod_array Tryd.underlying116 hd'
  have hlen12 : cs.toList.length = 12 := hlen.trans (by kernel_rfl)
  obtain ⟨c0, c1, c2, c3, c4, c5, c6, c7, c8, c9, c10, c11, hcs⟩ := list12 hlen12
  rw [hcs] at hel
  have e0 := hel 0 (by decide)
  have e1 := hel 1 (by decide)
  have e2 := hel 2 (by decide)
  rw [unitC] at e0 e1 e2
  match xs, hn, hx, e0, e1, e2 with
  | [x0, x1, x2], _, hx, e0, e1, e2 =>
    simp only [Prod.mk.injEq] at hx
    have hx := hx.1
    simp only [List.map_cons, List.map_nil, DataW.agg.injEq, List.cons.injEq] at hx
    obtain ⟨hx0, hx1, hx2, -⟩ := hx
    obtain ⟨y00, y01, y02, y03, n0, rfl, -, a00, a01, a02, a03⟩ := Joins.trod_struct4 Tryd.underlying97 e0
    obtain ⟨y10, y11, y12, y13, n1, rfl, -, a10, a11, a12, a13⟩ := Joins.trod_struct4 Tryd.underlying97 e1
    obtain ⟨y20, y21, y22, y23, n2, rfl, -, a20, a21, a22, a23⟩ := Joins.trod_struct4 Tryd.underlying97 e2
    simp only [Nat.zero_mul, Nat.one_mul, Nat.reduceMul, List.drop_zero, List.drop_succ_cons, List.take_succ_cons, List.take_zero, cI, cS, cF] at a00 a01 a02 a03 a10 a11 a12 a13 a20 a21 a22 a23
    simp only [DataW.agg.injEq, List.cons.injEq] at hx0
    obtain ⟨h00, h01, h02, h03, -⟩ := hx0
    simp only [DataW.agg.injEq, List.cons.injEq] at hx1
    obtain ⟨h10, h11, h12, h13, -⟩ := hx1
    simp only [DataW.agg.injEq, List.cons.injEq] at hx2
    obtain ⟨h20, h21, h22, h23, -⟩ := hx2
    obtain ⟨k00, g00, z00, -⟩ := DataW.trod_int Tryd.underlying3 a00
    rw [z00] at h00
    simp only [DataW.lit.injEq, Lit.int.injEq, true_and] at h00
    subst h00
    simp only [List.cons.injEq, and_true] at g00
    obtain ⟨k01, g01, z01, -⟩ := DataW.trod_int Tryd.underlying3 a01
    rw [z01] at h01
    simp only [DataW.lit.injEq, Lit.int.injEq, true_and] at h01
    subst h01
    simp only [List.cons.injEq, and_true] at g01
    obtain ⟨k02, g02, z02, -⟩ := DataW.trod_string Tryd.underlying9 a02
    rw [z02] at h02
    simp only [DataW.lit.injEq, Lit.string.injEq] at h02
    simp only [List.cons.injEq, and_true] at g02
    have g03 := nil_of_trod (q := y03.2) Tryd.underlying95 (by rw [a03]; exact congrArg some (Prod.ext h03.symm rfl))
    obtain ⟨k10, g10, z10, -⟩ := DataW.trod_int Tryd.underlying3 a10
    rw [z10] at h10
    simp only [DataW.lit.injEq, Lit.int.injEq, true_and] at h10
    subst h10
    simp only [List.cons.injEq, and_true] at g10
    obtain ⟨k11, g11, z11, -⟩ := DataW.trod_int Tryd.underlying3 a11
    rw [z11] at h11
    simp only [DataW.lit.injEq, Lit.int.injEq, true_and] at h11
    subst h11
    simp only [List.cons.injEq, and_true] at g11
    obtain ⟨k12, g12, z12, -⟩ := DataW.trod_string Tryd.underlying9 a12
    rw [z12] at h12
    simp only [DataW.lit.injEq, Lit.string.injEq] at h12
    simp only [List.cons.injEq, and_true] at g12
    have g13 := func_of_trod (q := y13.2) (f0 := 143) Tryd.underlying95 (by kernel_rfl) (by rw [a13]; exact congrArg some (Prod.ext h13.symm rfl))
    obtain ⟨k20, g20, z20, -⟩ := DataW.trod_int Tryd.underlying3 a20
    rw [z20] at h20
    simp only [DataW.lit.injEq, Lit.int.injEq, true_and] at h20
    subst h20
    simp only [List.cons.injEq, and_true] at g20
    obtain ⟨k21, g21, z21, -⟩ := DataW.trod_int Tryd.underlying3 a21
    rw [z21] at h21
    simp only [DataW.lit.injEq, Lit.int.injEq, true_and] at h21
    subst h21
    simp only [List.cons.injEq, and_true] at g21
    obtain ⟨k22, g22, z22, -⟩ := DataW.trod_string Tryd.underlying9 a22
    rw [z22] at h22
    simp only [DataW.lit.injEq, Lit.string.injEq] at h22
    simp only [List.cons.injEq, and_true] at g22
    have g23 := func_of_trod (q := y23.2) (f0 := 143) Tryd.underlying95 (by kernel_rfl) (by rw [a23]; exact congrArg some (Prod.ext h23.symm rfl))
    have s0 : k02 = ⟨#[]⟩ := bytes_inj (by rw [← h02])
    have s1 : k12 = ⟨#[109, 109]⟩ := bytes_inj (by rw [← h12])
    have s2 : k22 = ⟨#[105, 110]⟩ := bytes_inj (by rw [← h22])
    subst s0; subst s1; subst s2
    have hcs2 : cs = #[c0, c1, c2, c3, c4, c5, c6, c7, c8, c9, c10, c11] := by rw [← Array.toArray_toList (xs := cs), hcs]
    rw [g00, g01, g02, g03, g10, g11, g12, g13, g20, g21, g22, g23] at hcs2
    simp only [World.var?, gUnits, Option.bind_some] at hv
    split at hv
    · rename_i cs' t fr heq
      injection hv with hv
      exact Units.of_block (t := t) (fr := fr) (by rw [heq, hv, hcs2])
    · cases hv

theorem of_laid {W : World} (h : laidMetH Tryd.prog laid1 W) : Units W := of_laid_mem h (List.mem_singleton.2 rfl)

theorem cell_lt {w : World} {a : Addr} {v : Value} (h : w.cell? a = some v) : a.block < w.heap.size := by
  rcases Nat.lt_or_ge a.block w.heap.size with hl | hl
  · exact hl
  · simp [World.cell?, Array.getElem?_eq_none hl] at h

theorem cU : Tryd.prog.cellsOf 5 = 1 := by kernel_rfl

set_option maxRecDepth 100000 in
/-- A slice of u8 that came in. -/
theorem open_u8s {H : Type} {enc : TypeId × Value → H} {W : World} {v : Value} {d : DataW H} {p : List MemPlace} {base : Nat} (hval : Value.okWide Tryd.prog W .any base 24 v)
    (h : DataW.Trod enc Tryd.prog W 0 (fun _ => true) true 24 v d p) :
    ∃ l : List Int, SlU W v l ∧ (v = .slice none 0 0 ∨ ∃ ad c, v = .slice (some ad) l.length c) ∧ ∀ (j : Nat) (h : j < l.length), 0 ≤ l[j] ∧ l[j] ≤ 255 := by
  obtain ⟨a, len, cap, rfl⟩ := okWide_slice Tryd.underlying24 hval
  obtain ⟨fuel, hf⟩ := h
  rcases open_slice1 Tryd.underlying24 cU (cs := [.slice a len cap]) (by simpa [Value.cells] using hf) with ⟨hn, -⟩ | ⟨a', len', cap', m, n, V, D, Pl, hv, -, hl, hm, hmm, -, hx⟩
  · simp only [List.cons.injEq, Value.slice.injEq, and_true] at hn
    obtain ⟨rfl, rfl, rfl⟩ := hn
    exact ⟨[], ⟨none, 0, rfl, by simp, fun h => absurd rfl h⟩, .inl rfl, fun j h => by simp at h⟩
  · simp only [List.cons.injEq, Value.slice.injEq, and_true] at hv
    obtain ⟨rfl, rfl, rfl⟩ := hv
    simp only [↓reduceIte] at hmm
    have hV : ∀ i, i < len → ∃ k, V i = .int .u8 k ∧ 0 ≤ k ∧ k ≤ 255 := fun i hi => by
      obtain ⟨k, e1, -, e3⟩ := DataW.trod_int Tryd.underlying5 (hx i (by omega)).2
      simp only [List.cons.injEq, and_true] at e1
      exact ⟨k, e1, bounds_u8 e3⟩
    have hlen : ((List.range len).map fun i => intOf (V i)).length = len := by simp
    refine ⟨(List.range len).map fun i => intOf (V i), ⟨some a', cap, by rw [hlen], by rw [hlen]; unfold maxLen at hm; omega, fun hne => ?_⟩, .inr ⟨a', cap, by rw [hlen]⟩, fun j h => ?_⟩
    · have hpos : 0 < len := by
        rcases Nat.eq_zero_or_pos len with h0 | h0
        · exact absurd (List.length_eq_zero_iff.1 (hlen.trans h0)) hne
        · exact h0
      obtain ⟨b, off, spot⟩ := a'
      have hc0 := (hx 0 (by omega)).1
      have hspot : spot = none := by simpa [Addr.add] using World.cell?_spot hc0
      subst hspot
      refine ⟨b, off, rfl, by have := cell_lt hc0; simpa [Addr.add] using this, fun i hi => ?_⟩
      rw [hlen] at hi
      obtain ⟨k, e1, -⟩ := hV i hi
      have hci := (hx i (by omega)).1
      rw [WideShapes.add_plain, e1] at hci
      rw [hci]
      simp [e1, intOf]
    · rw [hlen] at h
      obtain ⟨k, e1, e2⟩ := hV j h
      simpa [e1, intOf] using e2

end Go.Proofs.YtikjooemblpnbaaDoor
