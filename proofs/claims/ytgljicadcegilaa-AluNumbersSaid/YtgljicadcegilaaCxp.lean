/- The context of this seat's program for the evaluator, where what an op does is told over no memory. Conditions: none. -/
import Derived.Test.YtgljicadcegilaaCx
import Derived.Test.YtgljicadcegilaaEvPure
namespace Go.Proofs.Ytgljicadcegilaa.Ev
open Go.RowKit

noncomputable def cxp : Cx DC := cx.sum 54 (pureSum Try.prog cx 380 54)
theorem cxp_ok : Ok Try.prog cxp := cx_ok.pure 380 54 (by kernel_rfl)
end Go.Proofs.Ytgljicadcegilaa.Ev
