/- What the evaluator is told of a seat's program, from closed facts on it. -/
import Derived.Test.YtngcbpcfgolifaaEvTop
import Derived.WalkKit
namespace Go.Proofs.Ytngcbpcfgolifaa.Ev
open Go.RowKit
set_option linter.unusedVariables false
set_option linter.unusedSimpArgs false

/-- A context without externs and without summaries. -/
def mkC0 (bases : List Nat) : Cx DC :=
  { base := fun f => bases.getD f 0, ext := fun _ => none, sums := fun _ _ _ => none, blk := fun _ _ => none, tail := fun _ _ => none, opx := fun _ _ => none }
/-- A context without summaries, with a load and a store of atomics. -/
def mkCx (bases : List Nat) (lf sf : Nat) : Cx DC :=
  { base := fun f => bases.getD f 0, ext := fun f => bif Nat.beq f lf then some .load64 else bif Nat.beq f sf then some .store64 else none, sums := fun _ _ _ => none, blk := fun _ _ => none, tail := fun _ _ => none, opx := fun _ _ => none }

theorem names_ok {P : Program} (hN : (P.funcs.all fun fn => !(fn.name == "runtime.NumGoroutine")) = true) : ∀ (f : Nat) (fn : Func), P.funcs[f]? = some fn → (fn.name == "runtime.NumGoroutine") = false := fun f fn hf => by
  obtain ⟨hi, e⟩ := Array.getElem?_eq_some_iff.1 hf
  have := (Array.all_eq_true.1 hN) f hi
  rw [e] at this
  simpa using this

theorem mkC0_ok {P : Program} {bases : List Nat} (hm : P.follows .mixedOrders = true) (hN : (P.funcs.all fun fn => !(fn.name == "runtime.NumGoroutine")) = true) : Ok P (mkC0 bases) := by
  refine ⟨hm, names_ok hN, ?_, ⟨?_, ?_⟩, ?_, ?_, ?_, ?_⟩
  · intro f hf; cases hf
  · intro f hf; cases hf
  · intro f hf; cases hf
  · intro f args h t e; cases e
  · intro f args h t r e; cases e
  · intro f id g e; cases e
  · intro o s t z e; cases e

theorem mkCx_ok {P : Program} {bases : List Nat} {lf sf : Nat} (hm : P.follows .mixedOrders = true) (hN : (P.funcs.all fun fn => !(fn.name == "runtime.NumGoroutine")) = true)
    {l s : Func} (hl : P.funcs[lf]? = some l) (hlb : l.body.isNone = true) (hln : Extern.findNext l = none) (hle : Extern.find l = some (Extern.Atomic.loadT (.int .u64)))
    (hs : P.funcs[sf]? = some s) (hsb : s.body.isNone = true) (hsn : Extern.findNext s = none) (hse : Extern.find s = some Extern.Atomic.storeT) : Ok P (mkCx bases lf sf) := by
  refine ⟨hm, names_ok hN, ?_, ⟨?_, ?_⟩, ?_, ?_, ?_, ?_⟩
  · intro f hf b n w hc
    simp only [mkCx] at hf
    cases h1 : Nat.beq f lf with
    | false =>
      rw [h1] at hf
      cases h2 : Nat.beq f sf <;> rw [h2] at hf <;> cases hf
    | true =>
      obtain rfl := Nat.eq_of_beq_eq_true h1
      exact run_call_load hl (names_ok hN _ _ hl) hlb hln .u64 hle hc
  · intro f hf b n v w hc hz
    simp only [mkCx] at hf
    cases h1 : Nat.beq f lf with
    | true => rw [h1] at hf; cases hf
    | false =>
      rw [h1] at hf
      cases h2 : Nat.beq f sf with
      | false => rw [h2] at hf; cases hf
      | true =>
        obtain rfl := Nat.eq_of_beq_eq_true h2
        exact run_call_store hs (names_ok hN _ _ hs) hsb hsn hse hc hz
  · intro f hf b n d w hc hz
    simp only [mkCx] at hf
    cases h1 : Nat.beq f lf with
    | true => rw [h1] at hf; cases hf
    | false => rw [h1] at hf; cases h2 : Nat.beq f sf <;> rw [h2] at hf <;> cases hf
  · intro f args h t e; cases e
  · intro f args h t r e; cases e
  · intro f id g e; cases e
  · intro o s t z e; cases e
/-- A context with an atomic sum besides. -/
def Cx.adds (X : Cx DC) (af : Nat) : Cx DC := { X with ext := fun f => bif Nat.beq f af then some .add64 else X.ext f }
theorem Ok.adds {P : Program} {X : Cx DC} (hX : Ok P X) {af : Nat} {l : Func} (hl : P.funcs[af]? = some l) (hlb : l.body.isNone = true) (hln : Extern.findNext l = none) (hle : Extern.find l = some (Extern.Atomic.update (Op.intArith .add) .u64 true)) : Ok P (X.adds af) := by
  refine ⟨hX.mixed, hX.names, ?_, ⟨?_, ?_⟩, hX.bodies, hX.sums, hX.blk, hX.opx⟩
  · intro f hf
    simp only [Cx.adds] at hf
    cases h1 : Nat.beq f af <;> rw [h1] at hf
    · exact hX.load f hf
    · cases hf
  · intro f hf
    simp only [Cx.adds] at hf
    cases h1 : Nat.beq f af <;> rw [h1] at hf
    · exact hX.store.1 f hf
    · cases hf
  · intro f hf b n d w hc hz
    simp only [Cx.adds] at hf
    cases h1 : Nat.beq f af <;> rw [h1] at hf
    · exact hX.store.2 f hf b n d w hc hz
    · obtain rfl := Nat.eq_of_beq_eq_true h1
      exact run_call_add hl (hX.names _ _ hl) hlb hln .u64 hle hc hz rfl
/-! ### The places of regions' tails and asides -/
section Tails
def tailAt : List (Nat × Nat × Nat) → Nat → Nat → Option Nat
  | [], _, _ => none
  | x :: l, f, id => if Nat.beq x.1 f && Nat.beq x.2.1 id then some x.2.2 else tailAt l f id
def Cx.tails {D : Dom} (X : Cx D) (l : List (Nat × Nat × Nat)) : Cx D := { X with tail := tailAt l }
theorem Ok.tails {P : Program} {X : Cx DC} (h : Ok P X) (l : List (Nat × Nat × Nat)) : Ok P (X.tails l) :=
  ⟨h.mixed, h.names, h.load, h.store, h.bodies, h.sums, h.blk, h.opx⟩
end Tails
end Go.Proofs.Ytngcbpcfgolifaa.Ev
