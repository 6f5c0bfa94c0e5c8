/- A context with the places of its regions' tails and asides told. Conditions: none. -/
import Derived.Test.YtngcbpcfgolifaaEvCtx
namespace Go.Proofs.Ytngcbpcfgolifaa.Ev
def tailAt : List (Nat × Nat × Nat) → Nat → Nat → Option Nat
  | [], _, _ => none
  | x :: l, f, id => if Nat.beq x.1 f && Nat.beq x.2.1 id then some x.2.2 else tailAt l f id
def Cx.tails {D : Dom} (X : Cx D) (l : List (Nat × Nat × Nat)) : Cx D := { X with tail := tailAt l }
theorem Ok.tails {P : Program} {X : Cx DC} (h : Ok P X) (l : List (Nat × Nat × Nat)) : Ok P (X.tails l) :=
  ⟨h.mixed, h.names, h.load, h.store, h.bodies, h.sums, h.blk, h.opx⟩
end Go.Proofs.Ytngcbpcfgolifaa.Ev
