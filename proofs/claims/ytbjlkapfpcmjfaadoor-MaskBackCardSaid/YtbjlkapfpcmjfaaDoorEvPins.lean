/- Blocks of which it is known what stands in them: the library's table behind TrailingZeros64. Conditions: none. -/
import Derived.Calls
import Derived.Lib.TrailingZeros
namespace Go.Proofs.YtbjlkapfpcmjfaaDoor.Ev
def pins : List (Nat × List Value) := [(0, Lib.deBruijn64tab.map fun (n : Nat) => .int .u8 (n : Int))]
end Go.Proofs.YtbjlkapfpcmjfaaDoor.Ev
