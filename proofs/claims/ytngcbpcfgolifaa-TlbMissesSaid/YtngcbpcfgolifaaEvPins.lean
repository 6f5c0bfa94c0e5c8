/- Blocks of which it is known what stands in them: here none. Conditions: none. -/
import Derived.Calls
namespace Go.Proofs.Ytngcbpcfgolifaa.Ev
def pins : List (Nat × List Value) := []
end Go.Proofs.Ytngcbpcfgolifaa.Ev
