/- The context of this seat's program for the evaluator, with slices of arrays. Conditions: none. -/
import Derived.Test.YtbjlkapfpcmjfaaCx
import Derived.Test.YtbjlkapfpcmjfaaEvArr
import Derived.Test.YtbjlkapfpcmjfaaEvTaut2
namespace Go.Proofs.Ytbjlkapfpcmjfaa.Ev
open Go.RowKit

noncomputable def cx2 : Cx DC := cx.more (arrX Try.prog)
theorem cx2_ok : Ok Try.prog cx2 := cx_ok.more fun _ _ _ _ ho hz _ _ _ _ _ hS H => arrX_sound ho hz hS H
end Go.Proofs.Ytbjlkapfpcmjfaa.Ev
