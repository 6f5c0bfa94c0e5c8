/- What strings of bytes are told by. Conditions: none. -/
import Derived.Test.YtngcbpcfgolifaaShown
namespace Go.Proofs.Ytngcbpcfgolifaa.Ev
open Go.RowKit
def blitF (f : Nat → Int) (a : Nat) (g : Nat → Int) (b n : Nat) : Nat → Int := fun i => if a ≤ i ∧ i < a + n then g (b + (i - a)) else f i
def byteF (f : Nat → Int) : Nat → Int := fun i => (((f i).toNat % 256 : Nat) : Int)
def eqF (f : Nat → Int) (a : Nat) (g : Nat → Int) (b n : Nat) : Bool := (List.range n).all fun i => f (a + i) == g (b + i)
theorem same_bytes (F : Nat → Int) (N : Nat) : eqF (byteF (blitF (fun _ => 0) 0 F 0 N)) 0 (byteF F) 0 N = true := by
  refine List.all_eq_true.2 fun i hi => ?_
  have hi' : i < N := List.mem_range.1 hi
  show (((((if 0 ≤ 0 + i ∧ 0 + i < 0 + N then F (0 + (0 + i - 0)) else 0).toNat % 256 : Nat) : Int)) == ((((F (0 + i)).toNat % 256 : Nat) : Int))) = true
  rw [if_pos ⟨Nat.zero_le _, by omega⟩, show 0 + (0 + i - 0) = 0 + i by omega]
  exact beq_self_eq_true _
end Go.Proofs.Ytngcbpcfgolifaa.Ev
