/- The context of this seat's program for the evaluator, where what an atomic op does is told over no memory. Conditions: none. -/
import Derived.Test.YtgljicadcegilaaCx
import Derived.Test.YtgljicadcegilaaEvPure
namespace Go.Proofs.Ytgljicadcegilaa.Ev
open Go.RowKit

theorem Ok.pureOf {P : Program} {X Y : Cx DC} (hX : Ok P X) (hY : Ok P Y) (n : Nat) (f : FuncId) (hb : (match P.funcs[f]? with | some fn => !fn.body.isNone | none => false) = true) : Ok P (Y.sum f (pureSum P X n f)) := by
  refine hY.sum hb fun args h t r ht hp => ?_
  unfold pureSum at ht
  split at ht
  · rename_i ha
    cases ht
    obtain ⟨l, h1, h2, h3⟩ := plainT_pick _ hp
    obtain ⟨v, w⟩ := r
    simp only at h1 h2 h3
    subst h2
    exact pure_ok hX h1 ha h3
  · cases ht

noncomputable def cxn48 : Cx DC := cx.sum 48 (pureSum Try.prog cx 380 48)
noncomputable def cxn47 : Cx DC := cxn48.sum 47 (pureSum Try.prog cx 380 47)
noncomputable def cxn : Cx DC := cxn47.sum 50 (pureSum Try.prog cx 380 50)
theorem cxn48_ok : Ok Try.prog cxn48 := cx_ok.pureOf cx_ok 380 48 (by kernel_rfl)
theorem cxn47_ok : Ok Try.prog cxn47 := cx_ok.pureOf cxn48_ok 380 47 (by kernel_rfl)
theorem cxn_ok : Ok Try.prog cxn := cx_ok.pureOf cxn47_ok 380 50 (by kernel_rfl)
end Go.Proofs.Ytgljicadcegilaa.Ev
