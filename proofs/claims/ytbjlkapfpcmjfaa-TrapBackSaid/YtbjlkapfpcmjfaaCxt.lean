/- The context of this seat's program for the statements on traps. Conditions: none. -/
import Derived.Test.YtbjlkapfpcmjfaaCx
import Derived.Test.YtbjlkapfpcmjfaaEvTails
import Derived.Test.YtbjlkapfpcmjfaaEvPureA
namespace Go.Proofs.Ytbjlkapfpcmjfaa.Ev
open Go.RowKit
noncomputable def cxt0 : Cx DC := cx.tails [(32, 5, 4), (59, 6, 4)]
theorem cxt0_ok : Ok Try.prog cxt0 := cx_ok.tails _
noncomputable def cxt : Cx DC := cxt0.sum 45 (pureSumA Try.prog cxt0 380 45)
theorem cxt_ok : Ok Try.prog cxt := cxt0_ok.pureA 380 45 (by kernel_rfl)
end Go.Proofs.Ytbjlkapfpcmjfaa.Ev
