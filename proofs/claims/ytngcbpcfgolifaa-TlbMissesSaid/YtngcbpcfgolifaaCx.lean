/- The context of this seat's program for the evaluator. Conditions: none. -/
import Derived.Test.YtngcbpcfgolifaaEvSlice
import Derived.Test.YtngcbpcfgolifaaEvTmpl
import Derived.Test.YtngcbpcfgolifaaEvLoop
import Derived.Test.YtngcbpcfgolifaaEvMem
import Derived.Test.YtngcbpcfgolifaaEvApp
import Derived.Test.YtngcbpcfgolifaaEvArr
import Derived.Test.YtngcbpcfgolifaaEvCtx
import Derived.Test.YtngcbpcfgolifaaEvPureA
import Derived.Test.YtngcbpcfgolifaaEvRoute
import Derived.Test.YtngcbpcfgolifaaRows
import Derived.Test.YtngcbpcfgolifaaChecked
namespace Go.Proofs.Ytngcbpcfgolifaa.Ev
open Go.RowKit

noncomputable def cx0 : Cx DC := mkC0 [0, 0, 0, 16, 23, 31, 22, 29, 17, 15, 15, 22, 18, 16, 18, 24, 21, 16, 22, 18, 19, 33, 25, 6, 3, 8, 3, 9, 6, 4, 9, 3, 10, 3, 3, 12, 13, 9, 4, 11, 11, 9, 10, 8, 5, 11, 17, 23, 14, 15, 5, 6, 5, 6, 3, 3, 5, 5, 12, 4, 3, 11, 19, 3, 10, 3, 11, 3, 9, 15, 22, 4, 8, 15, 3, 19, 18, 14, 17, 17, 18, 17, 6, 18, 8, 6, 5, 5, 11, 3, 8, 3, 3, 3, 5, 13, 3, 3, 3, 5, 4, 5, 9, 8, 12, 3, 5, 3, 5, 3, 8, 7, 6, 3, 4, 20, 11, 21, 3, 4, 3, 0, 0, 0, 0, 0, 0, 0, 0, 0, 0, 0, 0, 0, 0, 0, 0, 0, 0, 0, 0]
noncomputable def cx1 : Cx DC := cx0.more (selX Try.prog)
noncomputable def cx2 : Cx DC := cx1.more (memX Try.prog)
noncomputable def cx3a : Cx DC := cx2.more (mapX Try.prog)
noncomputable def cx3b : Cx DC := cx3a.more (arrX Try.prog)
noncomputable def cx3 : Cx DC := cx3b.more (appX Try.prog)
noncomputable def cx : Cx DC := cx3.tails [(3, 10, 18), (3, 16, 15), (5, 27, 8), (15, 18, 8), (15, 19, 8), (16, 9, 22), (19, 7, 15), (21, 32, 15), (22, 26, 15), (22, 27, 15), (48, 3, 2), (48, 5, 3), (48, 6, 8), (49, 6, 2), (49, 7, 8), (62, 11, 2), (70, 15, 2), (70, 17, 8), (71, 2, 7), (73, 13, 1152921504607371400), (25, 1, 512), (25, 2, 0), (75, 9, 3), (76, 5, 7), (76, 7, 3), (77, 4, 3), (77, 7, 2), (77, 8, 6), (78, 6, 2), (78, 9, 3), (79, 4, 17), (79, 5, 13), (79, 7, 2), (79, 11, 3), (80, 6, 13), (80, 8, 3), (81, 5, 12), (81, 6, 3), (82, 6, 8), (83, 3, 2), (83, 6, 4), (83, 9, 2), (83, 11, 7), (115, 10, 2), (116, 3, 4), (117, 5, 2), (117, 10, 3), (117, 16, 2)]

theorem cx0_ok : Ok Try.prog cx0 := mkC0_ok (by kernel_rfl) (by kernel_rfl)
theorem cx1_ok : Ok Try.prog cx1 := cx0_ok.more fun _ _ _ _ ho hz _ _ _ _ _ hS H => selX_sound ho hz hS H
theorem cx2_ok : Ok Try.prog cx2 := cx1_ok.more fun _ _ _ _ ho hz _ _ _ _ _ hS H => memX_sound ho hz hS H
theorem cx3a_ok : Ok Try.prog cx3a := cx2_ok.more fun _ _ _ _ ho hz _ _ _ _ _ hS H => mapX_sound ho hz hS H
theorem cx3b_ok : Ok Try.prog cx3b := cx3a_ok.more fun _ _ _ _ ho hz _ _ _ _ _ hS H => arrX_sound ho hz hS H
theorem cx3_ok : Ok Try.prog cx3 := cx3b_ok.more fun _ _ _ _ ho hz _ _ _ _ _ hS H => appX_sound ho hz hS H
theorem cx_ok : Ok Try.prog cx := cx3_ok.tails _

theorem own : ownKnob Try.prog.godebug = none := by kernel_rfl
end Go.Proofs.Ytngcbpcfgolifaa.Ev
