/- The context of this seat's program for the evaluator. Conditions: none. -/
import Derived.Test.YtbjlkapfpcmjfaaEvSlice
import Derived.Test.YtbjlkapfpcmjfaaEvTmpl
import Derived.Test.YtbjlkapfpcmjfaaEvRoute
import Derived.Test.YtbjlkapfpcmjfaaRows
import Derived.Test.YtbjlkapfpcmjfaaChecked
namespace Go.Proofs.Ytbjlkapfpcmjfaa.Ev
open Go.RowKit

noncomputable def cx0 : Cx DC := mkCx [0, 0, 0, 13, 15, 9, 11, 13, 21, 12, 11, 15, 16, 17, 14, 14, 15, 20, 10, 3, 15, 2, 3, 6, 5, 3, 5, 2, 3, 3, 13, 3, 6, 3, 7, 8, 5, 7, 2, 1, 3, 5, 4, 4, 7, 3, 5, 5, 3, 9, 5, 3, 3, 4, 6, 4, 6, 5, 16, 7, 8, 4, 5, 3, 3, 4, 4, 5, 12, 8, 5, 3, 7, 3, 4, 4, 1, 5, 7, 3, 1, 5, 7, 5, 3, 0, 0, 6] 85 86
noncomputable def cx : Cx DC := cx0.more (selX Try.prog)

theorem cx0_ok : Ok Try.prog cx0 :=
  mkCx_ok (by kernel_rfl) (by kernel_rfl) Try.func85 (by kernel_rfl) (by kernel_rfl) (by kernel_rfl) Try.func86 (by kernel_rfl) (by kernel_rfl) (by kernel_rfl)
theorem cx_ok : Ok Try.prog cx := cx0_ok.more fun _ _ _ _ ho hz _ _ _ _ _ hS H => selX_sound ho hz hS H

theorem own : ownKnob Try.prog.godebug = none := by kernel_rfl
end Go.Proofs.Ytbjlkapfpcmjfaa.Ev
