/- The context of this seat's program for the evaluator, where an atomic op's size is told over no memory. Conditions: none. -/
import Derived.Test.YtgljicadcegilaaCx
import Derived.Test.YtgljicadcegilaaEvPure
namespace Go.Proofs.Ytgljicadcegilaa.Ev
open Go.RowKit

noncomputable def cxa : Cx DC := cx.sum 48 (pureSum Try.prog cx 380 48)
theorem cxa_ok : Ok Try.prog cxa := cx_ok.pure 380 48 (by kernel_rfl)
end Go.Proofs.Ytgljicadcegilaa.Ev
