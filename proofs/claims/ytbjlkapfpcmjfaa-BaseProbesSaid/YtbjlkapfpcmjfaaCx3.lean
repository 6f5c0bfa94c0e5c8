/- The context of this seat's program for the evaluator, with slices that are written out. Conditions: none. -/
import Derived.Test.YtbjlkapfpcmjfaaCx2
import Derived.Test.YtbjlkapfpcmjfaaEvMap
namespace Go.Proofs.Ytbjlkapfpcmjfaa.Ev
open Go.RowKit

noncomputable def cx3 : Cx DC := cx2.more (mapX Try.prog)
theorem cx3_ok : Ok Try.prog cx3 := cx2_ok.more fun _ _ _ _ ho hz _ _ _ _ _ hS H => mapX_sound ho hz hS H
end Go.Proofs.Ytbjlkapfpcmjfaa.Ev
