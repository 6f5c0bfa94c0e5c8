/- The context of this seat's program for the evaluator. Conditions: none. -/
import Derived.Test.YtgljicadcegilaaEvSlice
import Derived.Test.YtgljicadcegilaaEvTmpl
import Derived.Test.YtgljicadcegilaaEvMap
import Derived.Test.YtgljicadcegilaaEvRoute
import Derived.Test.YtgljicadcegilaaRows
import Derived.Test.YtgljicadcegilaaChecked
namespace Go.Proofs.Ytgljicadcegilaa.Ev
open Go.RowKit

noncomputable def cx0 : Cx DC := mkC0 [0, 0, 0, 11, 17, 11, 17, 15, 17, 17, 18, 11, 14, 8, 12, 14, 13, 18, 14, 11, 1, 9, 9, 6, 7, 9, 9, 11, 4, 1, 7, 10, 7, 9, 6, 8, 11, 4, 9, 8, 6, 13, 11, 11, 7, 7, 9, 7, 3, 4, 5, 5, 12, 1, 8, 7, 7, 7, 5, 6, 10, 12, 14, 5, 5, 3, 3, 10, 3, 5, 7, 4, 5, 7, 18, 5, 8, 8, 7, 7, 8, 8, 8, 8, 6, 1, 4, 5, 5, 5, 5, 5, 5, 5, 3, 5, 3, 3, 3, 3, 5, 3, 5, 5, 3, 6, 7, 6, 7, 7, 0, 0, 0, 0, 0, 0, 0, 0, 0, 0, 0, 0, 0, 0, 0, 0]
noncomputable def cx1 : Cx DC := cx0.more (selX Try.prog)
noncomputable def cx : Cx DC := cx1.more (mapX Try.prog)

theorem cx0_ok : Ok Try.prog cx0 := mkC0_ok (by kernel_rfl) (by kernel_rfl)
theorem cx1_ok : Ok Try.prog cx1 := cx0_ok.more fun _ _ _ _ ho hz _ _ _ _ _ hS H => selX_sound ho hz hS H
theorem cx_ok : Ok Try.prog cx := cx1_ok.more fun _ _ _ _ ho hz _ _ _ _ _ hS H => mapX_sound ho hz hS H

theorem own : ownKnob Try.prog.godebug = none := by kernel_rfl
end Go.Proofs.Ytgljicadcegilaa.Ev
