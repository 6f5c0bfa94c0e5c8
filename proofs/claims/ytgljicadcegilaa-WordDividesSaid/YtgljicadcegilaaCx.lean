/- The context of this seat's program for the evaluator. Conditions: none. -/
import Derived.Test.YtgljicadcegilaaEvLift
import Derived.Test.YtgljicadcegilaaRows
import Derived.Test.YtgljicadcegilaaChecked
namespace Go.Proofs.Ytgljicadcegilaa.Ev
open Go.RowKit

def cx : Cx DC := mkC0 [0, 0, 0, 11, 17, 11, 17, 15, 11, 14, 13, 18, 14, 11, 17, 17, 18, 14, 8, 12, 1, 9, 9, 6, 7, 9, 9, 11, 6, 13, 11, 11, 7, 7, 9, 1, 8, 7, 7, 7, 5, 6, 4, 1, 7, 10, 7, 9, 6, 8, 11, 4, 9, 8, 7, 3, 4, 5, 5, 12, 10, 12, 14, 5, 3, 10, 3, 5, 18, 5, 5, 8, 8, 7, 7, 4, 5, 3, 7, 7, 8, 8, 8, 8, 5, 5, 5, 5, 5, 5, 5, 3, 5, 3, 3, 3, 3, 5, 3, 5, 5, 3, 6, 1, 4, 6, 7, 6, 7, 7, 0, 0, 0, 0, 0, 0, 0, 0, 0, 0, 0, 0, 0, 0, 0, 0]

theorem cx_ok : Ok Try.prog cx := mkC0_ok (by kernel_rfl) (by kernel_rfl)

theorem own : ownKnob Try.prog.godebug = none := by kernel_rfl
end Go.Proofs.Ytgljicadcegilaa.Ev
