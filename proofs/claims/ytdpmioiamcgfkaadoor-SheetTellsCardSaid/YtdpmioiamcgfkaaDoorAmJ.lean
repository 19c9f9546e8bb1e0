/-
  The abstract machine: code, run step by step, with what stands behind as a list.
-/
import Derived.Test.YtdpmioiamcgfkaaDoorAmI
namespace Go.Proofs.YtdpmioiamcgfkaaDoor
open Go.RowKit

inductive KF where
  | sq (b : RCode)
  | bk (id : Nat)
  | sc

section
variable (P : Program) (R : Run)
def RetP : List KF → (Exit → St → Prop) → Exit → St → Prop
  | [], Φ, e, st => Φ e st
  | .sq b :: ks, Φ, .normal, st => AR P R b st (RetP ks Φ)
  | .sq _ :: ks, Φ, e, st => RetP ks Φ e st
  | .bk id :: ks, Φ, .exit j, st => if j = id then RetP ks Φ .normal st else RetP ks Φ (.exit j) st
  | .bk _ :: ks, Φ, e, st => RetP ks Φ e st
  | .sc :: _, _, .goto _, _ => False
  | .sc :: ks, Φ, e, st => RetP ks Φ e st

inductive Md where
  | run (c : RCode)
  | out (e : Exit)

def GO : Nat → Md → List KF → (Exit → St → Prop) → St → Prop
  | 0, .run c, ks, Φ, st => AR P R c st (RetP P R ks Φ)
  | 0, .out e, ks, Φ, st => RetP P R ks Φ e st
  | n + 1, .run .skip, ks, Φ, st => GO n (.out .normal) ks Φ st
  | n + 1, .run .ret, ks, Φ, st => GO n (.out .ret) ks Φ st
  | n + 1, .run (.exit id), ks, Φ, st => GO n (.out (.exit id)) ks Φ st
  | n + 1, .run (.seq a b), ks, Φ, st => GO n (.run a) (.sq b :: ks) Φ st
  | n + 1, .run (.cond c a b), ks, Φ, st => match evA R.G st c with
    | .bool t => (t = true → GO n (.run a) ks Φ st) ∧ (t = false → GO n (.run b) ks Φ st)
    | .abool => GO n (.run a) ks Φ st ∧ GO n (.run b) ks Φ st
    | _ => False
  | n + 1, .run (.block id a), ks, Φ, st => GO n (.run a) (.bk id :: ks) Φ st
  | n + 1, .run (.reg _ false ops), ks, Φ, st => RW P R.G ops st (fun e st => GO n (.out e) ks Φ st)
  | n + 1, .run (.reg _ true ops), ks, Φ, st => RD P R.G ops st [] (GO n (.out .normal) ks Φ)
  | _ + 1, .run (.loop c), ks, Φ, st => AR P R (.loop c) st (RetP P R ks Φ)
  | _ + 1, .run (.raw p), ks, Φ, st => AR P R (.raw p) st (RetP P R ks Φ)
  | _ + 1, .run (.rngf g ps c b), ks, Φ, st => AR P R (.rngf g ps c b) st (RetP P R ks Φ)
  | n + 1, .run (.scope a), ks, Φ, st => GO n (.run a) (.sc :: ks) Φ st
  | n + 1, .run (.label _), ks, Φ, st => GO n (.out .normal) ks Φ st
  | n + 1, .out .normal, .sc :: ks, Φ, st => GO n (.out .normal) ks Φ st
  | n + 1, .out .ret, .sc :: ks, Φ, st => GO n (.out .ret) ks Φ st
  | n + 1, .out (.exit j), .sc :: ks, Φ, st => GO n (.out (.exit j)) ks Φ st
  | n + 1, .out (.panic ch), .sc :: ks, Φ, st => GO n (.out (.panic ch)) ks Φ st
  | _ + 1, .out e, [], Φ, st => Φ e st
  | n + 1, .out .normal, .sq b :: ks, Φ, st => GO n (.run b) ks Φ st
  | n + 1, .out .ret, .sq _ :: ks, Φ, st => GO n (.out .ret) ks Φ st
  | n + 1, .out (.panic ch), .sq _ :: ks, Φ, st => GO n (.out (.panic ch)) ks Φ st
  | n + 1, .out (.panic ch), .bk _ :: ks, Φ, st => GO n (.out (.panic ch)) ks Φ st
  | n + 1, .out (.exit j), .sq _ :: ks, Φ, st => GO n (.out (.exit j)) ks Φ st
  | n + 1, .out .normal, .bk _ :: ks, Φ, st => GO n (.out .normal) ks Φ st
  | n + 1, .out .ret, .bk _ :: ks, Φ, st => GO n (.out .ret) ks Φ st
  | n + 1, .out (.exit j), .bk id :: ks, Φ, st => if j = id then GO n (.out .normal) ks Φ st else GO n (.out (.exit j)) ks Φ st
  | _ + 1, .out _, _ :: _, _, _ => False
end

section
variable {P : Program} {R : Run}
theorem AR_mono {rc : RCode} {st : St} {Φ Ψ : Exit → St → Prop} (h : AR P R rc st Φ) (hm : ∀ e s, Φ e s → Ψ e s) : AR P R rc st Ψ := fun c hc m a W hs =>
  wpIn_mono (h c hc m a W hs) fun _ _ _ ⟨s, h1, h2⟩ => ⟨s, hm _ _ h1, h2⟩

theorem CallW_mono {G : Nat → Option (List AV)} {st : St} {f : FuncId} {args : List AV} {n n' : AV → St → Prop} {p p' : List PanicEntry → Prop} (h : CallW P G st f args n p) (hn : ∀ v s, n v s → n' v s) (hp : ∀ c, p c → p' c) : CallW P G st f args n' p' := by
  rcases h with ⟨v, h1, h2⟩ | ⟨v, s, h1, h2⟩ | ⟨c, h1, h2⟩
  · exact .inl ⟨v, h1, hn _ _ h2⟩
  · exact .inr (.inl ⟨v, s, h1, hn _ _ h2⟩)
  · exact .inr (.inr ⟨c, h1, hp _ h2⟩)
theorem RW_mono {G : Nat → Option (List AV)} {K K' : Exit → St → Prop} (hm : ∀ e s, K e s → K' e s) : ∀ {rs : List ROper} {st : St}, RW P G rs st K → RW P G rs st K'
  | [], st, h => hm _ st h
  | r :: rs, st, h => by
    simp only [RW] at h ⊢
    split at h
    · exact h.elim
    · refine ⟨fun e => RW_mono hm (h.1 e), fun e => ?_⟩
      have h := h.2 e
      split at h
      · exact CallW_mono h (fun v s hs => RW_mono hm hs) (fun c hc => hm _ _ hc)
      · exact h.imp (fun ⟨v, h1, h2⟩ => ⟨v, h1, RW_mono hm h2⟩) (fun ⟨sz, rows, h1, h2⟩ => ⟨sz, rows, h1, RW_mono hm h2⟩)
      · split at h <;> try (exact h.elim)
        exact CallW_mono h (fun v s hs => RW_mono hm hs) (fun c hc => hm _ _ hc)
      · split at h <;> try (exact h.elim)
        exact RW_mono hm h
theorem RD_mono {G : Nat → Option (List AV)} {K K' : St → Prop} (hm : ∀ s, K s → K' s) : ∀ {rs : List ROper} {st : St} {acc : List Rec}, RD P G rs st acc K → RD P G rs st acc K'
  | [], st, acc, h => ⟨h.1, hm st h.2⟩
  | r :: rs, st, acc, h => by
    simp only [RD] at h ⊢
    split at h
    · exact h.elim
    · refine ⟨fun e => RD_mono hm (h.1 e), fun e => ?_⟩
      have h := h.2 e
      split at h
      · obtain ⟨v, h1, h2⟩ := h; exact ⟨v, h1, RD_mono hm h2⟩
      · exact h.imp (fun ⟨v, h1, h2⟩ => ⟨v, h1, RD_mono hm h2⟩) (fun ⟨sz, rows, h1, h2⟩ => ⟨sz, rows, h1, RD_mono hm h2⟩)
      · split at h <;> try (exact h.elim)
        obtain ⟨v, h1, h2⟩ := h; exact ⟨v, h1, RD_mono hm h2⟩
      · split at h <;> try (exact h.elim)
        exact RD_mono hm h

theorem Thn_RetP {b : RCode} {ks : List KF} {Φ : Exit → St → Prop} {e : Exit} {s : St} (h : RetP P R (.sq b :: ks) Φ e s) : Thn P R b (RetP P R ks Φ) e s := by
  cases e <;> exact h
theorem Blk_RetP {id : Nat} {ks : List KF} {Φ : Exit → St → Prop} {e : Exit} {s : St} (h : RetP P R (.bk id :: ks) Φ e s) : Blk' id (RetP P R ks Φ) e s := by
  cases e <;> exact h

theorem Scp_RetP {ks : List KF} {Φ : Exit → St → Prop} {e : Exit} {s : St} (h : RetP P R (.sc :: ks) Φ e s) : Scp (RetP P R ks Φ) e s := by
  cases e <;> exact h

theorem GO_spec (hm : P.follows .mixedOrders = true) : ∀ (n : Nat) (m : Md) (ks : List KF) (Φ : Exit → St → Prop) (st : St), GO P R n m ks Φ st →
    match m with
    | .run c => AR P R c st (RetP P R ks Φ)
    | .out e => RetP P R ks Φ e st := by
  intro n
  induction n with
  | zero => intro m ks Φ st h; cases m <;> exact h
  | succ n ih =>
    intro m ks Φ st h
    cases m with
    | run c =>
      simp only
      cases c with
      | skip => exact AR_skip (ih _ _ _ _ h)
      | ret => exact AR_ret (ih _ _ _ _ h)
      | exit id => exact AR_exit (ih _ _ _ _ h)
      | seq a b => exact AR_seq (AR_mono (ih _ _ _ _ h) fun _ _ => Thn_RetP)
      | cond c a b =>
        simp only [GO] at h
        split at h <;> try (exact h.elim)
        · exact AR_cond _ ‹_› (fun e => ih _ _ _ _ (h.1 e)) (fun e => ih _ _ _ _ (h.2 e))
        · exact AR_condA ‹_› (ih _ _ _ _ h.1) (ih _ _ _ _ h.2)
      | block id a => exact AR_block (AR_mono (ih _ _ _ _ h) fun _ _ => Blk_RetP)
      | reg id draw ops =>
        cases draw
        · exact AR_reg (RW_mono (fun e s hs => ih _ _ _ _ hs) (show RW P R.G ops st _ from h))
        · exact AR_regd hm (RD_mono (fun s hs => ih _ _ _ _ hs) (show RD P R.G ops st [] _ from h))
      | loop c => exact h
      | rngf g ps c b => exact h
      | raw p => exact h
      | scope c => exact AR_scope (AR_mono (ih _ _ _ _ h) fun _ _ => Scp_RetP)
      | label id => exact AR_label (ih _ _ _ _ h)
    | out e =>
      simp only
      cases ks with
      | nil => cases e <;> exact h
      | cons k ks =>
        cases k with
        | sq b => cases e <;> first | exact ih _ _ _ _ h | exact (h : False).elim
        | sc => cases e <;> first | exact ih _ _ _ _ h | exact (h : False).elim
        | bk id =>
          cases e <;> try (first | exact ih _ _ _ _ h | exact (h : False).elim)
          simp only [GO] at h
          simp only [RetP]
          split at h
          · rename_i e; rw [if_pos e]; exact ih _ _ _ _ h
          · rename_i e; rw [if_neg e]; exact ih _ _ _ _ h

theorem GO_AR (hm : P.follows .mixedOrders = true) (n : Nat) {c : RCode} {Φ : Exit → St → Prop} {st : St} (h : GO P R n (.run c) [] Φ st) : AR P R c st Φ := GO_spec hm n _ _ _ _ h
theorem GO_run (hm : P.follows .mixedOrders = true) (n : Nat) {c : RCode} {ks : List KF} {Φ : Exit → St → Prop} {st : St} (h : GO P R n (.run c) ks Φ st) : AR P R c st (RetP P R ks Φ) := GO_spec hm n _ _ _ _ h
theorem AR_weak {c : RCode} {st st' : St} {Φ : Exit → St → Prop} (hw : Weak st st') (h : AR P R c st' Φ) : AR P R c st Φ := fun k hk m a W hs => h k hk m a W (hw R a W hs)
theorem GO_ret (hm : P.follows .mixedOrders = true) (n : Nat) {e : Exit} {ks : List KF} {Φ : Exit → St → Prop} {st : St} (h : GO P R n (.out e) ks Φ st) : RetP P R ks Φ e st := GO_spec hm n _ _ _ _ h
end

/-! ### Rules for 'simp': one step each; nothing is opened where a truth value or a call's result is open. -/
section
variable {P : Program} {R : Run} {G : Nat → Option (List AV)} {d : Option Nat} {op : ROp} {g : Option (Nat × Bool)} {aft : List Nat} {rs : List ROper} {st : St} {K : St → Prop} {Kx : Exit → St → Prop} {acc : List Rec}

/-- A call, and what stands behind it. -/
def CallK (P : Program) (G : Nat → Option (List AV)) (st : St) (f : FuncId) (args : List AV) (d : Option Nat) (rs : List ROper) (K : Exit → St → Prop) : Prop := CallW P G st f args (fun v st1 => RW P G rs (st1.putd d v) K) (fun ch => K (.panic ch) st)
def CallD (P : Program) (G : Nat → Option (List AV)) (st : St) (f : FuncId) (args : List AV) (d : Option Nat) (rs : List ROper) (acc : List Rec) (K : St → Prop) : Prop := ∃ v, CallR P G st f args v ∧ RD P G rs (st.putd d v) acc K

theorem CallK.of {f : FuncId} {args : List AV} {v : AV} (h : PC P G f args v) (hp : args.all AV.pure = true) (hk : RW P G rs (st.putd d v) Kx) : CallK P G st f args d rs Kx := .inl ⟨v, .inl ⟨hp, h⟩, hk⟩
theorem CallD.of {f : FuncId} {args : List AV} {v : AV} (h : PC P G f args v) (hp : args.all AV.pure = true) (hk : RD P G rs (st.putd d v) acc K) : CallD P G st f args d rs acc K := ⟨v, .inl ⟨hp, h⟩, hk⟩
theorem CallK.flat {f : FuncId} {args ys : List AV} {v : AV} (h : PC P G f ys v) (hf : v.flat = true) (hs : snapL (snap st) args = some ys) (hk : RW P G rs (st.putd d v) Kx) : CallK P G st f args d rs Kx := .inl ⟨v, .inr ⟨hf, ys, hs, h⟩, hk⟩
theorem CallK.pan {f : FuncId} {args ys : List AV} {ch : List PanicEntry} (h : PPC P G f ys ch) (hs : snapL (snap st) args = some ys) (hk : Kx (.panic ch) st) : CallK P G st f args d rs Kx := .inr (.inr ⟨ch, ⟨ys, hs, h⟩, hk⟩)
theorem CallK.sem {f : FuncId} {args : List AV} {v : AV} {st1 : St} (h : CallSem P G st f args v st1) (hk : RW P G rs (st1.putd d v) Kx) : CallK P G st f args d rs Kx := .inr (.inl ⟨v, st1, h, hk⟩)
theorem CallD.flat {f : FuncId} {args ys : List AV} {v : AV} (h : PC P G f ys v) (hf : v.flat = true) (hs : snapL (snap st) args = some ys) (hk : RD P G rs (st.putd d v) acc K) : CallD P G st f args d rs acc K := ⟨v, .inr ⟨hf, ys, hs, h⟩, hk⟩

def thenW (P : Program) (G : Nat → Option (List AV)) (d : Option Nat) (rs : List ROper) (K : Exit → St → Prop) : Option (AV × St) → Prop
  | some (x, st') => RW P G rs (st'.putd d x) K
  | none => False
def thenD (P : Program) (G : Nat → Option (List AV)) (d : Option Nat) (rs : List ROper) (acc : List Rec) (K : St → Prop) : Option (AV × St) → Prop
  | some (x, st') => RD P G rs (st'.putd d x) acc K
  | none => False

/-- A call that may return a list in new memory. -/
def CallNK (P : Program) (G : Nat → Option (List AV)) (st : St) (f : FuncId) (args : List AV) (d : Option Nat) (rs : List ROper) (K : Exit → St → Prop) : Prop :=
  (∃ v, CallR P G st f args v ∧ RW P G rs (st.putd d v) K) ∨ ∃ sz rows, NewR P G st (d.getD 0) f args sz rows ∧ RW P G rs ((st.set (d.getD 0) (.row sz rows)).putd d (.osl (d.getD 0) rows.length)) K
def CallND (P : Program) (G : Nat → Option (List AV)) (st : St) (f : FuncId) (args : List AV) (d : Option Nat) (rs : List ROper) (acc : List Rec) (K : St → Prop) : Prop :=
  (∃ v, CallR P G st f args v ∧ RD P G rs (st.putd d v) acc K) ∨ ∃ sz rows, NewR P G st (d.getD 0) f args sz rows ∧ RD P G rs ((st.set (d.getD 0) (.row sz rows)).putd d (.osl (d.getD 0) rows.length)) acc K
theorem CallNK.of {f : FuncId} {args : List AV} {v : AV} (h : PC P G f args v) (hp : args.all AV.pure = true) (hk : RW P G rs (st.putd d v) Kx) : CallNK P G st f args d rs Kx := .inl ⟨v, .inl ⟨hp, h⟩, hk⟩
theorem CallND.of {f : FuncId} {args : List AV} {v : AV} (h : PC P G f args v) (hp : args.all AV.pure = true) (hk : RD P G rs (st.putd d v) acc K) : CallND P G st f args d rs acc K := .inl ⟨v, .inl ⟨hp, h⟩, hk⟩
theorem CallNK.new {f : FuncId} {args : List AV} {sz : Nat} {rows : List (List AV)} (h : PN P G f args sz rows) (hp : args.all AV.pure = true) (hg : st.get (d.getD 0) = none) (hk : RW P G rs ((st.set (d.getD 0) (.row sz rows)).putd d (.osl (d.getD 0) rows.length)) Kx) : CallNK P G st f args d rs Kx := .inr ⟨sz, rows, ⟨hg, hp, h⟩, hk⟩
theorem CallND.new {f : FuncId} {args : List AV} {sz : Nat} {rows : List (List AV)} (h : PN P G f args sz rows) (hp : args.all AV.pure = true) (hg : st.get (d.getD 0) = none) (hk : RD P G rs ((st.set (d.getD 0) (.row sz rows)).putd d (.osl (d.getD 0) rows.length)) acc K) : CallND P G st f args d rs acc K := .inr ⟨sz, rows, ⟨hg, hp, h⟩, hk⟩

/-- A call of a value. -/
def callvW (P : Program) (G : Nat → Option (List AV)) (st : St) (f : AV) (args : List AV) (d : Option Nat) (rs : List ROper) (K : Exit → St → Prop) : Prop := match f with
  | .func (.func g) first caps => CallK P G st g (first ++ args ++ caps) d rs K
  | _ => False
def callvD (P : Program) (G : Nat → Option (List AV)) (st : St) (f : AV) (args : List AV) (d : Option Nat) (rs : List ROper) (acc : List Rec) (K : St → Prop) : Prop := match f with
  | .func (.func g) first caps => CallD P G st g (first ++ args ++ caps) d rs acc K
  | _ => False
def execW (P : Program) (G : Nat → Option (List AV)) (op : ROp) (d : Option Nat) (rs : List ROper) (st : St) (K : Exit → St → Prop) : Prop := match op with
  | .call f args => CallK P G st f (args.map (evA G st)) d rs K
  | .calln f args => CallNK P G st f (args.map (evA G st)) d rs K
  | .callv f args => callvW P G st (evA G st f) (args.map (evA G st)) d rs K
  | op => thenW P G d rs K (rop G st (d.getD 0) op)
def execD (P : Program) (G : Nat → Option (List AV)) (op : ROp) (d : Option Nat) (rs : List ROper) (st : St) (acc : List Rec) (K : St → Prop) : Prop := match op with
  | .call f args => CallD P G st f (args.map (evA G st)) d rs acc K
  | .calln f args => CallND P G st f (args.map (evA G st)) d rs acc K
  | .callv f args => callvD P G st (evA G st f) (args.map (evA G st)) d rs acc K
  | op => thenD P G d rs acc K (rop G st (d.getD 0) op)
def guardW (P : Program) (G : Nat → Option (List AV)) (w : Option Bool) (op : ROp) (d : Option Nat) (rs : List ROper) (st : St) (K : Exit → St → Prop) : Prop := match w with
  | none => False
  | some w => (w = false → RW P G rs (st.putd d .hole) K) ∧ (w = true → execW P G op d rs st K)
def guardD (P : Program) (G : Nat → Option (List AV)) (w : Option Bool) (op : ROp) (d : Option Nat) (rs : List ROper) (st : St) (rc : Rec) (acc : List Rec) (K : St → Prop) : Prop := match w with
  | none => False
  | some w => (w = false → RD P G rs (st.putd d .hole) (rc :: acc) K) ∧ (w = true → execD P G op d rs st (rc :: acc) K)

theorem RW_nil : RW P G [] st Kx = Kx .normal st := rfl
theorem RW_con : RW P G (⟨d, op, g, aft⟩ :: rs) st Kx = guardW P G (wants st g) op d rs st Kx := by
  simp only [RW, guardW]
  rcases wants st g with _ | w
  · rfl
  · congr 1
theorem guardW_true : guardW P G (some true) op d rs st Kx = execW P G op d rs st Kx := by simp [guardW]
theorem guardW_false : guardW P G (some false) op d rs st Kx = RW P G rs (st.putd d .hole) Kx := by simp [guardW]
theorem execW_call {f : FuncId} {args : List RA} : execW P G (.call f args) d rs st Kx = CallK P G st f (args.map (evA G st)) d rs Kx := rfl
theorem execW_calln {f : FuncId} {args : List RA} : execW P G (.calln f args) d rs st Kx = CallNK P G st f (args.map (evA G st)) d rs Kx := rfl
theorem execW_callv {f : RA} {args : List RA} : execW P G (.callv f args) d rs st Kx = callvW P G st (evA G st f) (args.map (evA G st)) d rs Kx := rfl
theorem callvW_func {g0 : FuncId} {first caps args : List AV} : callvW P G st (.func (.func g0) first caps) args d rs Kx = CallK P G st g0 (first ++ args ++ caps) d rs Kx := rfl
theorem thenW_some {x : AV} {st' : St} : thenW P G d rs Kx (some (x, st')) = RW P G rs (st'.putd d x) Kx := rfl

theorem RD_nil : RD P G [] st acc K = (indepB acc.reverse = true ∧ K st) := rfl
theorem RD_con : RD P G (⟨d, op, g, aft⟩ :: rs) st acc K = guardD P G (wants st g) op d rs st (recOf G ⟨d, op, g, aft⟩ st) acc K := by
  simp only [RD, guardD]
  rcases wants st g with _ | w
  · rfl
  · congr 1
theorem guardD_true {rc : Rec} : guardD P G (some true) op d rs st rc acc K = execD P G op d rs st (rc :: acc) K := by simp [guardD]
theorem guardD_false {rc : Rec} : guardD P G (some false) op d rs st rc acc K = RD P G rs (st.putd d .hole) (rc :: acc) K := by simp [guardD]
theorem execD_call {f : FuncId} {args : List RA} : execD P G (.call f args) d rs st acc K = CallD P G st f (args.map (evA G st)) d rs acc K := rfl
theorem execD_calln {f : FuncId} {args : List RA} : execD P G (.calln f args) d rs st acc K = CallND P G st f (args.map (evA G st)) d rs acc K := rfl
theorem execD_callv {f : RA} {args : List RA} : execD P G (.callv f args) d rs st acc K = callvD P G st (evA G st f) (args.map (evA G st)) d rs acc K := rfl
theorem callvD_func {g0 : FuncId} {first caps args : List AV} : callvD P G st (.func (.func g0) first caps) args d rs acc K = CallD P G st g0 (first ++ args ++ caps) d rs acc K := rfl
theorem thenD_some {x : AV} {st' : St} : thenD P G d rs acc K (some (x, st')) = RD P G rs (st'.putd d x) acc K := rfl
theorem execW_mov {x_ : RA} : execW P G (.mov x_) d rs st Kx = thenW P G d rs Kx (rop G st (d.getD 0) (.mov x_)) := rfl
theorem execD_mov {x_ : RA} : execD P G (.mov x_) d rs st acc K = thenD P G d rs acc K (rop G st (d.getD 0) (.mov x_)) := rfl
theorem execW_pick {c_ a_ b_ : RA} : execW P G (.pick c_ a_ b_) d rs st Kx = thenW P G d rs Kx (rop G st (d.getD 0) (.pick c_ a_ b_)) := rfl
theorem execD_pick {c_ a_ b_ : RA} : execD P G (.pick c_ a_ b_) d rs st acc K = thenD P G d rs acc K (rop G st (d.getD 0) (.pick c_ a_ b_)) := rfl
theorem execW_nilck {x_ : RA} : execW P G (.nilck x_) d rs st Kx = thenW P G d rs Kx (rop G st (d.getD 0) (.nilck x_)) := rfl
theorem execD_nilck {x_ : RA} : execD P G (.nilck x_) d rs st acc K = thenD P G d rs acc K (rop G st (d.getD 0) (.nilck x_)) := rfl
theorem execW_bin {op_ : BinOp} {x_ y_ : RA} : execW P G (.bin op_ x_ y_) d rs st Kx = thenW P G d rs Kx (rop G st (d.getD 0) (.bin op_ x_ y_)) := rfl
theorem execD_bin {op_ : BinOp} {x_ y_ : RA} : execD P G (.bin op_ x_ y_) d rs st acc K = thenD P G d rs acc K (rop G st (d.getD 0) (.bin op_ x_ y_)) := rfl
theorem execW_eqs {neg_ : Bool} {ks_ : List CK} {x_ y_ : RA} : execW P G (.eqs neg_ ks_ x_ y_) d rs st Kx = thenW P G d rs Kx (rop G st (d.getD 0) (.eqs neg_ ks_ x_ y_)) := rfl
theorem execD_eqs {neg_ : Bool} {ks_ : List CK} {x_ y_ : RA} : execD P G (.eqs neg_ ks_ x_ y_) d rs st acc K = thenD P G d rs acc K (rop G st (d.getD 0) (.eqs neg_ ks_ x_ y_)) := rfl
theorem execW_un {op_ : UnOp} {x_ : RA} : execW P G (.un op_ x_) d rs st Kx = thenW P G d rs Kx (rop G st (d.getD 0) (.un op_ x_)) := rfl
theorem execD_un {op_ : UnOp} {x_ : RA} : execD P G (.un op_ x_) d rs st acc K = thenD P G d rs acc K (rop G st (d.getD 0) (.un op_ x_)) := rfl
theorem execW_conv {k_ : IntKind} {x_ : RA} : execW P G (.conv k_ x_) d rs st Kx = thenW P G d rs Kx (rop G st (d.getD 0) (.conv k_ x_)) := rfl
theorem execD_conv {k_ : IntKind} {x_ : RA} : execD P G (.conv k_ x_) d rs st acc K = thenD P G d rs acc K (rop G st (d.getD 0) (.conv k_ x_)) := rfl
theorem execW_ext {i_ : Nat} {x_ : RA} : execW P G (.ext i_ x_) d rs st Kx = thenW P G d rs Kx (rop G st (d.getD 0) (.ext i_ x_)) := rfl
theorem execD_ext {i_ : Nat} {x_ : RA} : execD P G (.ext i_ x_) d rs st acc K = thenD P G d rs acc K (rop G st (d.getD 0) (.ext i_ x_)) := rfl
theorem execW_mkf {fn_ : Fn} {first_ caps_ : List RA} : execW P G (.mkf fn_ first_ caps_) d rs st Kx = thenW P G d rs Kx (rop G st (d.getD 0) (.mkf fn_ first_ caps_)) := rfl
theorem execD_mkf {fn_ : Fn} {first_ caps_ : List RA} : execD P G (.mkf fn_ first_ caps_) d rs st acc K = thenD P G d rs acc K (rop G st (d.getD 0) (.mkf fn_ first_ caps_)) := rfl
theorem execW_field {agg_ : Bool} {off_ n_ : Nat} {x_ : RA} : execW P G (.field agg_ off_ n_ x_) d rs st Kx = thenW P G d rs Kx (rop G st (d.getD 0) (.field agg_ off_ n_ x_)) := rfl
theorem execD_field {agg_ : Bool} {off_ n_ : Nat} {x_ : RA} : execD P G (.field agg_ off_ n_ x_) d rs st acc K = thenD P G d rs acc K (rop G st (d.getD 0) (.field agg_ off_ n_ x_)) := rfl
theorem execW_vop {v_ : VOp} {x_ : List RA} : execW P G (.vop v_ x_) d rs st Kx = thenW P G d rs Kx (rop G st (d.getD 0) (.vop v_ x_)) := rfl
theorem execD_vop {v_ : VOp} {x_ : List RA} : execD P G (.vop v_ x_) d rs st acc K = thenD P G d rs acc K (rop G st (d.getD 0) (.vop v_ x_)) := rfl
theorem execW_faddr {off_ : Nat} {p_ : RA} : execW P G (.faddr off_ p_) d rs st Kx = thenW P G d rs Kx (rop G st (d.getD 0) (.faddr off_ p_)) := rfl
theorem execD_faddr {off_ : Nat} {p_ : RA} : execD P G (.faddr off_ p_) d rs st acc K = thenD P G d rs acc K (rop G st (d.getD 0) (.faddr off_ p_)) := rfl
theorem execW_iaddr {sz_ : Nat} {s_ i_ : RA} : execW P G (.iaddr sz_ s_ i_) d rs st Kx = thenW P G d rs Kx (rop G st (d.getD 0) (.iaddr sz_ s_ i_)) := rfl
theorem execD_iaddr {sz_ : Nat} {s_ i_ : RA} : execD P G (.iaddr sz_ s_ i_) d rs st acc K = thenD P G d rs acc K (rop G st (d.getD 0) (.iaddr sz_ s_ i_)) := rfl
theorem execW_build {zero_ : List AV} {parts_ : List (Nat × Nat × RA)} : execW P G (.build zero_ parts_) d rs st Kx = thenW P G d rs Kx (rop G st (d.getD 0) (.build zero_ parts_)) := rfl
theorem execD_build {zero_ : List AV} {parts_ : List (Nat × Nat × RA)} : execD P G (.build zero_ parts_) d rs st acc K = thenD P G d rs acc K (rop G st (d.getD 0) (.build zero_ parts_)) := rfl
theorem execW_len {x_ : RA} : execW P G (.len x_) d rs st Kx = thenW P G d rs Kx (rop G st (d.getD 0) (.len x_)) := rfl
theorem execD_len {x_ : RA} : execD P G (.len x_) d rs st acc K = thenD P G d rs acc K (rop G st (d.getD 0) (.len x_)) := rfl
theorem execW_slen {x_ : RA} : execW P G (.slen x_) d rs st Kx = thenW P G d rs Kx (rop G st (d.getD 0) (.slen x_)) := rfl
theorem execD_slen {x_ : RA} : execD P G (.slen x_) d rs st acc K = thenD P G d rs acc K (rop G st (d.getD 0) (.slen x_)) := rfl
theorem execW_mx {great_ : Bool} {x_ : RA} {r_ : List RA} : execW P G (.mx great_ x_ r_) d rs st Kx = thenW P G d rs Kx (rop G st (d.getD 0) (.mx great_ x_ r_)) := rfl
theorem execD_mx {great_ : Bool} {x_ : RA} {r_ : List RA} : execD P G (.mx great_ x_ r_) d rs st acc K = thenD P G d rs acc K (rop G st (d.getD 0) (.mx great_ x_ r_)) := rfl
theorem execW_load {agg_ : Bool} {n_ : Nat} {p_ : RA} : execW P G (.load agg_ n_ p_) d rs st Kx = thenW P G d rs Kx (rop G st (d.getD 0) (.load agg_ n_ p_)) := rfl
theorem execD_load {agg_ : Bool} {n_ : Nat} {p_ : RA} : execD P G (.load agg_ n_ p_) d rs st acc K = thenD P G d rs acc K (rop G st (d.getD 0) (.load agg_ n_ p_)) := rfl
theorem execW_store {n_ : Nat} {p_ v_ : RA} : execW P G (.store n_ p_ v_) d rs st Kx = thenW P G d rs Kx (rop G st (d.getD 0) (.store n_ p_ v_)) := rfl
theorem execD_store {n_ : Nat} {p_ v_ : RA} : execD P G (.store n_ p_ v_) d rs st acc K = thenD P G d rs acc K (rop G st (d.getD 0) (.store n_ p_ v_)) := rfl
theorem execW_alloc {cells_ : List AV} : execW P G (.alloc cells_) d rs st Kx = thenW P G d rs Kx (rop G st (d.getD 0) (.alloc cells_)) := rfl
theorem execD_alloc {cells_ : List AV} : execD P G (.alloc cells_) d rs st acc K = thenD P G d rs acc K (rop G st (d.getD 0) (.alloc cells_)) := rfl
theorem execW_box {x_ : RA} : execW P G (.box x_) d rs st Kx = thenW P G d rs Kx (rop G st (d.getD 0) (.box x_)) := rfl
theorem execD_box {x_ : RA} : execD P G (.box x_) d rs st acc K = thenD P G d rs acc K (rop G st (d.getD 0) (.box x_)) := rfl
theorem execW_bsl {own_ : Bool} {sz_ len_ : Nat} {zero_ : List AV} {parts_ : List (Nat × RA)} : execW P G (.bsl own_ sz_ len_ zero_ parts_) d rs st Kx = thenW P G d rs Kx (rop G st (d.getD 0) (.bsl own_ sz_ len_ zero_ parts_)) := rfl
theorem execD_bsl {own_ : Bool} {sz_ len_ : Nat} {zero_ : List AV} {parts_ : List (Nat × RA)} : execD P G (.bsl own_ sz_ len_ zero_ parts_) d rs st acc K = thenD P G d rs acc K (rop G st (d.getD 0) (.bsl own_ sz_ len_ zero_ parts_)) := rfl
theorem execW_slc {sz_ : Nat} {x_ : RA} {lo_ hi_ : Option RA} : execW P G (.slc sz_ x_ lo_ hi_) d rs st Kx = thenW P G d rs Kx (rop G st (d.getD 0) (.slc sz_ x_ lo_ hi_)) := rfl
theorem execD_slc {sz_ : Nat} {x_ : RA} {lo_ hi_ : Option RA} : execD P G (.slc sz_ x_ lo_ hi_) d rs st acc K = thenD P G d rs acc K (rop G st (d.getD 0) (.slc sz_ x_ lo_ hi_)) := rfl
theorem execW_sslc {x_ : RA} {lo_ hi_ : Option RA} : execW P G (.sslc x_ lo_ hi_) d rs st Kx = thenW P G d rs Kx (rop G st (d.getD 0) (.sslc x_ lo_ hi_)) := rfl
theorem execD_sslc {x_ : RA} {lo_ hi_ : Option RA} : execD P G (.sslc x_ lo_ hi_) d rs st acc K = thenD P G d rs acc K (rop G st (d.getD 0) (.sslc x_ lo_ hi_)) := rfl
theorem execW_mksl {sz_ bytes_ : Nat} {zero_ : List AV} {n_ : RA} : execW P G (.mksl sz_ bytes_ zero_ n_) d rs st Kx = thenW P G d rs Kx (rop G st (d.getD 0) (.mksl sz_ bytes_ zero_ n_)) := rfl
theorem execD_mksl {sz_ bytes_ : Nat} {zero_ : List AV} {n_ : RA} : execD P G (.mksl sz_ bytes_ zero_ n_) d rs st acc K = thenD P G d rs acc K (rop G st (d.getD 0) (.mksl sz_ bytes_ zero_ n_)) := rfl
theorem execW_app {sz_ bytes_ : Nat} {s_ x_ : RA} : execW P G (.app sz_ bytes_ s_ x_) d rs st Kx = thenW P G d rs Kx (rop G st (d.getD 0) (.app sz_ bytes_ s_ x_)) := rfl
theorem execD_app {sz_ bytes_ : Nat} {s_ x_ : RA} : execD P G (.app sz_ bytes_ s_ x_) d rs st acc K = thenD P G d rs acc K (rop G st (d.getD 0) (.app sz_ bytes_ s_ x_)) := rfl

theorem execW_mkmap : execW P G .mkmap d rs st Kx = thenW P G d rs Kx (rop G st (d.getD 0) .mkmap) := rfl
theorem execD_mkmap : execD P G .mkmap d rs st acc K = thenD P G d rs acc K (rop G st (d.getD 0) .mkmap) := rfl
theorem execW_look {kk_ : KK} {zero_ : AV} {ok_ : Bool} {m_ k_ : RA} : execW P G (.look kk_ zero_ ok_ m_ k_) d rs st Kx = thenW P G d rs Kx (rop G st (d.getD 0) (.look kk_ zero_ ok_ m_ k_)) := rfl
theorem execD_look {kk_ : KK} {zero_ : AV} {ok_ : Bool} {m_ k_ : RA} : execD P G (.look kk_ zero_ ok_ m_ k_) d rs st acc K = thenD P G d rs acc K (rop G st (d.getD 0) (.look kk_ zero_ ok_ m_ k_)) := rfl
theorem execW_mupd {kk_ : KK} {m_ k_ v_ : RA} : execW P G (.mupd kk_ m_ k_ v_) d rs st Kx = thenW P G d rs Kx (rop G st (d.getD 0) (.mupd kk_ m_ k_ v_)) := rfl
theorem execD_mupd {kk_ : KK} {m_ k_ v_ : RA} : execD P G (.mupd kk_ m_ k_ v_) d rs st acc K = thenD P G d rs acc K (rop G st (d.getD 0) (.mupd kk_ m_ k_ v_)) := rfl
theorem execW_mdel {kk_ : KK} {m_ k_ : RA} : execW P G (.mdel kk_ m_ k_) d rs st Kx = thenW P G d rs Kx (rop G st (d.getD 0) (.mdel kk_ m_ k_)) := rfl
theorem execD_mdel {kk_ : KK} {m_ k_ : RA} : execD P G (.mdel kk_ m_ k_) d rs st acc K = thenD P G d rs acc K (rop G st (d.getD 0) (.mdel kk_ m_ k_)) := rfl
theorem execW_mlen {m_ : RA} : execW P G (.mlen m_) d rs st Kx = thenW P G d rs Kx (rop G st (d.getD 0) (.mlen m_)) := rfl
theorem execD_mlen {m_ : RA} : execD P G (.mlen m_) d rs st acc K = thenD P G d rs acc K (rop G st (d.getD 0) (.mlen m_)) := rfl

/-- A test. -/
def condK (P : Program) (R : Run) (c : AV) (n : Nat) (a b : RCode) (ks : List KF) (Φ : Exit → St → Prop) (st : St) : Prop := match c with
  | .bool t => (t = true → GO P R n (.run a) ks Φ st) ∧ (t = false → GO P R n (.run b) ks Φ st)
  | .abool => GO P R n (.run a) ks Φ st ∧ GO P R n (.run b) ks Φ st
  | _ => False

variable {n id : Nat} {ks : List KF} {Φ : Exit → St → Prop} {a b c0 : RCode} {c : RA} {ops : List ROper} {e : Exit}
theorem GO_skip : GO P R (n + 1) (.run .skip) ks Φ st = GO P R n (.out .normal) ks Φ st := rfl
theorem GO_rt : GO P R (n + 1) (.run .ret) ks Φ st = GO P R n (.out .ret) ks Φ st := rfl
theorem GO_exit : GO P R (n + 1) (.run (.exit id)) ks Φ st = GO P R n (.out (.exit id)) ks Φ st := rfl
theorem GO_seq : GO P R (n + 1) (.run (.seq a b)) ks Φ st = GO P R n (.run a) (.sq b :: ks) Φ st := rfl
theorem GO_block : GO P R (n + 1) (.run (.block id a)) ks Φ st = GO P R n (.run a) (.bk id :: ks) Φ st := rfl
theorem GO_cond : GO P R (n + 1) (.run (.cond c a b)) ks Φ st = condK P R (evA R.G st c) n a b ks Φ st := by simp only [GO, condK]
theorem condK_abool : condK P R .abool n a b ks Φ st = (GO P R n (.run a) ks Φ st ∧ GO P R n (.run b) ks Φ st) := rfl
theorem condK_true : condK P R (.bool true) n a b ks Φ st = GO P R n (.run a) ks Φ st := by simp [condK]
theorem condK_false : condK P R (.bool false) n a b ks Φ st = GO P R n (.run b) ks Φ st := by simp [condK]
def GOx (P : Program) (R : Run) (n : Nat) (ks : List KF) (Φ : Exit → St → Prop) : Exit → St → Prop := fun e st => GO P R n (.out e) ks Φ st
theorem GOx_def : GOx P R n ks Φ e st = GO P R n (.out e) ks Φ st := rfl
theorem GO_reg : GO P R (n + 1) (.run (.reg id false ops)) ks Φ st = RW P R.G ops st (GOx P R n ks Φ) := rfl
theorem GO_regd : GO P R (n + 1) (.run (.reg id true ops)) ks Φ st = RD P R.G ops st [] (GO P R n (.out .normal) ks Φ) := rfl
theorem GO_loop : GO P R (n + 1) (.run (.loop c0)) ks Φ st = AR P R (.loop c0) st (RetP P R ks Φ) := rfl
theorem GO_raw {p : Nat → Code → Bool} : GO P R (n + 1) (.run (.raw p)) ks Φ st = AR P R (.raw p) st (RetP P R ks Φ) := rfl
theorem GO_rngf {g : RA} {ps : List Nat} : GO P R (n + 1) (.run (.rngf g ps c0 b)) ks Φ st = AR P R (.rngf g ps c0 b) st (RetP P R ks Φ) := rfl
theorem GO_end : GO P R (n + 1) (.out e) [] Φ st = Φ e st := by cases e <;> rfl
theorem GO_sq : GO P R (n + 1) (.out .normal) (.sq b :: ks) Φ st = GO P R n (.run b) ks Φ st := rfl
theorem GO_sqr : GO P R (n + 1) (.out .ret) (.sq b :: ks) Φ st = GO P R n (.out .ret) ks Φ st := rfl
theorem GO_scope : GO P R (n + 1) (.run (.scope a)) ks Φ st = GO P R n (.run a) (.sc :: ks) Φ st := rfl
theorem GO_label : GO P R (n + 1) (.run (.label id)) ks Φ st = GO P R n (.out .normal) ks Φ st := rfl
theorem GO_sc : GO P R (n + 1) (.out .normal) (.sc :: ks) Φ st = GO P R n (.out .normal) ks Φ st := rfl
theorem GO_scr : GO P R (n + 1) (.out .ret) (.sc :: ks) Φ st = GO P R n (.out .ret) ks Φ st := rfl
theorem GO_sce {j : Nat} : GO P R (n + 1) (.out (.exit j)) (.sc :: ks) Φ st = GO P R n (.out (.exit j)) ks Φ st := rfl
theorem GO_scp {ch : List PanicEntry} : GO P R (n + 1) (.out (.panic ch)) (.sc :: ks) Φ st = GO P R n (.out (.panic ch)) ks Φ st := rfl
theorem GO_sqp {ch : List PanicEntry} : GO P R (n + 1) (.out (.panic ch)) (.sq b :: ks) Φ st = GO P R n (.out (.panic ch)) ks Φ st := rfl
theorem GO_bkp {ch : List PanicEntry} : GO P R (n + 1) (.out (.panic ch)) (.bk id :: ks) Φ st = GO P R n (.out (.panic ch)) ks Φ st := rfl
theorem GO_sqe : GO P R (n + 1) (.out (.exit id)) (.sq b :: ks) Φ st = GO P R n (.out (.exit id)) ks Φ st := rfl
theorem GO_bk : GO P R (n + 1) (.out .normal) (.bk id :: ks) Φ st = GO P R n (.out .normal) ks Φ st := rfl
theorem GO_bkr : GO P R (n + 1) (.out .ret) (.bk id :: ks) Φ st = GO P R n (.out .ret) ks Φ st := rfl
theorem GO_bke {j : Nat} : GO P R (n + 1) (.out (.exit j)) (.bk id :: ks) Φ st = if j = id then GO P R n (.out .normal) ks Φ st else GO P R n (.out (.exit j)) ks Φ st := rfl
end

attribute [simp] RW_nil RW_con guardW_true guardW_false execW_call execW_calln execW_callv callvW_func thenW_some RD_nil RD_con guardD_true guardD_false execD_call execD_calln execD_callv callvD_func thenD_some
  execW_mkmap execD_mkmap execW_look execD_look execW_mupd execD_mupd execW_mdel execD_mdel execW_mlen execD_mlen mapOf
  execW_mov execD_mov execW_pick execD_pick execW_nilck execD_nilck execW_bin execD_bin execW_eqs execD_eqs execW_un execD_un execW_conv execD_conv execW_ext execD_ext execW_mkf execD_mkf execW_field execD_field execW_vop execD_vop execW_faddr execD_faddr execW_iaddr execD_iaddr execW_build execD_build execW_len execD_len execW_slen execD_slen execW_mx execD_mx execW_load execD_load execW_store execD_store execW_alloc execD_alloc execW_box execD_box execW_bsl execD_bsl execW_slc execD_slc execW_sslc execD_sslc execW_mksl execD_mksl execW_app execD_app
  GO_scope GO_label GO_sc GO_scr GO_sce GO_scp GOx_def GO_sqp GO_bkp GO_skip GO_rt GO_exit GO_seq GO_block GO_cond condK_true condK_false condK_abool GO_reg GO_regd GO_loop GO_rngf GO_raw GO_end GO_sq GO_sqr GO_sqe GO_bk GO_bkr GO_bke
  wants rop vopF evA aBin aUn aFill cellsAt cut AV.cellsL AV.known AV.one splice storeAt eqL eq1 aMx aMxs rowsOf aLen bnd St.tmp St.get St.put St.putd St.set lk putO initSt iniT evRes evRess snapL snap snapF okAll reachF tupV Fin AV.pure AV.flat chunk
  recOf ROper.rt ROp.args RA.tm ftk wtk AV.keys

end Go.Proofs.YtdpmioiamcgfkaaDoor
