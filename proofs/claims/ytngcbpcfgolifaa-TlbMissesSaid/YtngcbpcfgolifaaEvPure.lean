/- A function of numbers and truths alone is what it is over no memory at all. Conditions: none. -/
import Derived.Test.YtngcbpcfgolifaaEvFrame
namespace Go.Proofs.Ytngcbpcfgolifaa.Ev
open Go.RowKit
set_option linter.unusedVariables false
set_option linter.unusedSimpArgs false

section
variable {D : Dom}
def scal : AV D → Bool
  | .int _ _ => true
  | .bool _ => true
  | _ => false
def plainT : T D (Ex D × List (W D)) → T D (AV D × List (W D))
  | .ret (.val v, _) => if scal v then .ret (v, []) else .fail
  | .ret _ => .fail
  | .br x t e => .br x (plainT t) (plainT e)
  | .fail => .fail
def pureSum (P : Program) (X : Cx D) (n : Nat) (f : FuncId) (args : List (AV D)) (h : List (AO D)) : Option (T D (AV D × List (W D))) :=
  if args.all scal then some (plainT (call P X n f args [])) else none
end

theorem plainT_pick : ∀ (t : T DC (Ex DC × List (W DC))) {r : AV DC × List (W DC)}, (plainT t).pick = some r → ∃ l, t.pick = some (.val r.1, l) ∧ r.2 = [] ∧ scal r.1 = true
  | .ret (e, l), r, h => by
    cases e with
    | val v =>
      simp only [plainT] at h
      split at h
      · rename_i hs
        have := T.ret_some h
        subst this
        exact ⟨l, rfl, rfl, hs⟩
      · cases h
    | _ => cases h
  | .br x t e, r, h => by
    cases x with
    | true => exact plainT_pick t h
    | false => exact plainT_pick e h
  | .fail, r, h => by cases h

theorem covV_scal {σ : Nat → Option Nat} {v : AV DC} (h : scal v = true) : covV σ v v := by
  cases v <;> first | (cases h; done) | rfl | exact ⟨rfl, rfl⟩
theorem covL_scal {σ : Nat → Option Nat} : ∀ {l : List (AV DC)}, l.all scal = true → covL σ l l
  | [], _ => trivial
  | v :: l, h => by
    simp only [List.all_cons, Bool.and_eq_true] at h
    exact ⟨covV_scal h.1, covL_scal h.2⟩

theorem pure_ok {P : Program} {X : Cx DC} (hX : Ok P X) {n : Nat} {f : FuncId} {args : List (AV DC)} {h : List (AO DC)} {v : AV DC} {l : List (W DC)} (hr : (call P X n f args []).pick = some (.val v, l)) (ha : args.all scal = true) (hv : scal v = true) : FnOk P f args h (v, []) := by
  have hu : ∀ (i j : Nat), (List.replicate h.length (none : Option Nat))[i]? = some (some j) → False := fun i j e => by
    rw [List.getElem?_replicate] at e
    split at e <;> cases e
  refine frame [] (List.replicate h.length none) (fn_ok hX (r := (v, l)) hr) (covL_scal ha) ?_ rfl ⟨by simp [St.apps], Nat.le_refl _, fun i e => ?_, fun i j _ e => (hu i j e).elim, fun i o hi e => ?_, fun i j o e => (hu i j e).elim, fun i i' j o o' e => (hu i j e).elim⟩ (covV_scal hv)
  · trivial
  · refine ⟨?_, rfl, fun j e => by cases e⟩
    rw [List.getElem?_replicate] at e
    split at e
    · assumption
    · cases e
  · have : i < h.length := (List.getElem?_eq_some_iff.1 e).1
    omega

theorem Ok.pure {P : Program} {X : Cx DC} (hX : Ok P X) (n : Nat) (f : FuncId) (hb : (match P.funcs[f]? with | some fn => !fn.body.isNone | none => false) = true) : Ok P (X.sum f (pureSum P X n f)) := by
  refine hX.sum hb fun args h t r ht hp => ?_
  unfold pureSum at ht
  split at ht
  · rename_i ha
    cases ht
    obtain ⟨l, h1, h2, h3⟩ := plainT_pick _ hp
    obtain ⟨v, w⟩ := r
    simp only at h1 h2 h3
    subst h2
    exact pure_ok hX h1 ha h3
  · cases ht
end Go.Proofs.Ytngcbpcfgolifaa.Ev
