/-
  What the functions of package size compute (in, Check, both, wanted, Inside), by the abstract machine.
-/
import Derived.Test.YtikjooemblpnbaaDoorRd
import Derived.Test.YtikjooemblpnbaaDoorRcB
namespace Go.Proofs.YtikjooemblpnbaaDoor
open Go.RowKit

/-- The index of the first number of which something is so, or -1. -/
def fstOf {α : Type} (p : α → Bool) (l : List α) : Int := match l.findIdx? p with | some i => (i : Int) | none => -1
theorem fstOf_hit {α : Type} {p : α → Bool} {l : List α} {i : Nat} (h : i < l.length) (hp : p l[i] = true) (hn : ∀ x ∈ l.take i, p x = false) : fstOf p l = i := by
  have : l.findIdx? p = some i := by
    rw [List.findIdx?_eq_some_iff_getElem]
    refine ⟨h, hp, fun j hj => ?_⟩
    rw [hn l[j] (List.mem_take_iff_getElem.2 ⟨j, by omega, rfl⟩)]; simp
  simp [fstOf, this]
theorem fstOf_none {α : Type} {p : α → Bool} {l : List α} (hn : ∀ x ∈ l, p x = false) : fstOf p l = -1 := by
  have : l.findIdx? p = none := List.findIdx?_eq_none_iff.2 hn
  simp [fstOf, this]
theorem fstOf_any {α : Type} (p : α → Bool) (l : List α) : decide (0 ≤ fstOf p l) = l.any p := by
  unfold fstOf
  cases h : l.findIdx? p with
  | none =>
    have h2 := List.findIdx?_eq_none_iff.1 h
    have : l.any p = false := by rw [← Bool.not_eq_true, List.any_eq_true]; rintro ⟨x, hx, hp⟩; rw [h2 x hx] at hp; cases hp
    simp [this]
  | some i =>
    obtain ⟨h1, h2, -⟩ := List.findIdx?_eq_some_iff_getElem.1 h
    have : l.any p = true := List.any_eq_true.2 ⟨l[i], List.getElem_mem h1, h2⟩
    simp [this]
theorem take_hit {α : Type} {p : α → Bool} {l : List α} {i : Nat} (h : i < l.length) (hp : p l[i] = false) (hn : ∀ x ∈ l.take i, p x = false) : ∀ x ∈ l.take (i + 1), p x = false := by
  rw [List.take_succ_eq_append_getElem h]
  intro x hx
  rcases List.mem_append.1 hx with hx | hx
  · exact hn x hx
  · rw [List.mem_singleton.1 hx]; exact hp

def ics (n : Int) : List AV := [.int .i64 n]

section
variable {G : Nat → Option (List AV)}

theorem indexI_pc (g : Nat) (caps : List AV) (p : Int → Bool) (l : List Int) (hc : caps.all AV.pure = true) (hl : l.length < 1000000)
    (hg : ∀ n ∈ l, PC Tryd.prog G g (.int .i64 n :: caps) (.bool (p n))) :
    PC Tryd.prog G 93 [.vsl (l.map ics), .func (.func g) [] caps] (.int .i64 (fstOf p l)) := by
  (refine pc_slices_IndexFunc_int_int (Nat.le_of_ble_eq_true rfl) fun R hG => GO_AR mixed 1000 ?_; subst hG)
  simp -implicitDefEqProofs [rc_slices_IndexFunc_int_int, rr_slices_IndexFunc_int_int]
  refine AR_loop (fun i : Nat => ⟨[(8, .int .i64 i), (7, .int .i64 l.length), (0, .vsl (l.map ics)), (1, .func (.func g) [] caps)], []⟩) (fun i => i ≤ l.length ∧ ∀ x ∈ l.take i, p x = false) (fun i => l.length - i) 0 (Weak.tm (by simp [lk])) ⟨by omega, by simp⟩ ?_
  rintro i ⟨hi, he⟩
  refine GO_AR mixed 1000 ?_
  by_cases h2 : i < l.length
  · have w1 : IntKind.i64.wrap ((i : Int) + 1) = ((i + 1 : Nat) : Int) := wrapI (by omega) (by omega)
    simp -implicitDefEqProofs [h2, ics]
    have hc2 : ∀ x ∈ caps, x.pure = true := List.all_eq_true.1 hc
    refine CallK.of (hg _ (List.getElem_mem h2)) (by simpa [AV.pure] using hc2) ?_
    cases h3 : p l[i]
    · simp -implicitDefEqProofs [w1]
      exact ⟨i + 1, Weak.tm (by simp [lk]), ⟨by omega, take_hit h2 h3 he⟩, by show l.length - (i + 1) < l.length - i; omega⟩
    · have e := fstOf_hit h2 h3 he
      simp -implicitDefEqProofs
      refine GO_ret mixed 1000 ?_
      simp -implicitDefEqProofs [e]
  · have e := fstOf_none (p := p) (l := l) (by rw [List.take_of_length_le (by omega)] at he; exact he)
    simp -implicitDefEqProofs [h2]
    refine GO_ret mixed 1000 ?_
    simp -implicitDefEqProofs [e]

theorem containsI_pc (g : Nat) (caps : List AV) (p : Int → Bool) (l : List Int) (hc : caps.all AV.pure = true) (hl : l.length < 1000000)
    (hg : ∀ n ∈ l, PC Tryd.prog G g (.int .i64 n :: caps) (.bool (p n))) :
    PC Tryd.prog G 80 [.vsl (l.map ics), .func (.func g) [] caps] (.bool (l.any p)) := by
  (refine pc_slices_ContainsFunc_int_int (Nat.le_of_ble_eq_true rfl) fun R hG => GO_AR mixed 1000 ?_; subst hG)
  simp -implicitDefEqProofs [rc_slices_ContainsFunc_int_int, rr_slices_ContainsFunc_int_int]
  have hc2 : ∀ x ∈ caps, x.pure = true := List.all_eq_true.1 hc
  refine CallK.of (indexI_pc g caps p l hc hl hg) (by simpa [AV.pure] using hc2) ?_
  have e := fstOf_any p l
  simp -implicitDefEqProofs [e]

theorem inC_pc (n lo hi : Int) : PC Tryd.prog G 81 [.int .i64 n, .vptr [.int .i64 lo] 0, .vptr [.int .i64 hi] 0] (.bool (!inR n lo hi)) := by
  (refine pc_size_in_1 (Nat.le_of_ble_eq_true rfl) fun R hG => GO_AR mixed 1000 ?_; subst hG)
  by_cases h1 : n < lo
  · have h2 : ¬ lo ≤ n := by omega
    simp -implicitDefEqProofs [rc_size_in_1, rr_size_in_1, h1, h2, inR]
  · have h2 : lo ≤ n := by omega
    by_cases h3 : hi < n
    · have h4 : ¬ n ≤ hi := by omega
      simp -implicitDefEqProofs [rc_size_in_1, rr_size_in_1, h1, h2, h3, h4, inR]
    · have h4 : n ≤ hi := by omega
      simp -implicitDefEqProofs [rc_size_in_1, rr_size_in_1, h1, h2, h3, h4, inR]

theorem inS_pc (lo hi : Int) (l : List Int) (hl : l.length < 1000000) : PC Tryd.prog G 55 [.int .i64 lo, .int .i64 hi, .vsl (l.map ics)] (.bool (l.all fun n => inR n lo hi)) := by
  (refine pc_size_in (Nat.le_of_ble_eq_true rfl) fun R hG => GO_AR mixed 1000 ?_; subst hG)
  simp -implicitDefEqProofs [rc_size_in, rr_size_in]
  (first | refine CallK.flat (containsI_pc 81 [.vptr [.int .i64 lo] 0, .vptr [.int .i64 hi] 0] (fun n => !inR n lo hi) l (by simp [AV.pure]) hl (fun n _ => inC_pc n lo hi)) (by simp [AV.flat]) (by simp) ?_ | refine CallD.flat (containsI_pc 81 [.vptr [.int .i64 lo] 0, .vptr [.int .i64 hi] 0] (fun n => !inR n lo hi) l (by simp [AV.pure]) hl (fun n _ => inC_pc n lo hi)) (by simp [AV.flat]) (by simp) ?_)
  have e : (!l.any fun n => !inR n lo hi) = l.all fun n => inR n lo hi := by simp [List.all_eq_not_any_not]
  simp -implicitDefEqProofs [e]
end
end Go.Proofs.YtikjooemblpnbaaDoor
