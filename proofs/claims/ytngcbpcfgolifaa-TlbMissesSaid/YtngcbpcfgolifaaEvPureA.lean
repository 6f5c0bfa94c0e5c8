/- A function of numbers, truths, strings and parts made of them is what it is over no memory at all. Conditions: none. -/
import Derived.Test.YtngcbpcfgolifaaEvPure
namespace Go.Proofs.Ytngcbpcfgolifaa.Ev
open Go.RowKit
set_option linter.unusedVariables false
set_option linter.unusedSimpArgs false

section
variable {D : Dom}
def scal1 : AV D → Bool
  | .int _ _ => true
  | .bool _ => true
  | .str _ => true
  | .undef => true
  | _ => false
def scal2 : AV D → Bool
  | .agg cs => cs.all scal1
  | v => scal1 v
def scal3 : AV D → Bool
  | .tuple cs => cs.all scal2
  | v => scal2 v
def plainA : T D (Ex D × List (W D)) → T D (AV D × List (W D))
  | .ret (.val v, _) => if scal3 v then .ret (v, []) else .fail
  | .ret _ => .fail
  | .br x t e => .br x (plainA t) (plainA e)
  | .fail => .fail
def pureSumA (P : Program) (X : Cx D) (n : Nat) (f : FuncId) (args : List (AV D)) (h : List (AO D)) : Option (T D (AV D × List (W D))) :=
  if args.all scal2 then some (plainA (call P X n f args [])) else none
end

theorem plainA_pick : ∀ (t : T DC (Ex DC × List (W DC))) {r : AV DC × List (W DC)}, (plainA t).pick = some r → ∃ l, t.pick = some (.val r.1, l) ∧ r.2 = [] ∧ scal3 r.1 = true
  | .ret (e, l), r, h => by
    cases e with
    | val v =>
      simp only [plainA] at h
      split at h
      · rename_i hs
        have := T.ret_some h
        subst this
        exact ⟨l, rfl, rfl, hs⟩
      · cases h
    | _ => cases h
  | .br x t e, r, h => by
    cases x with
    | true => exact plainA_pick t h
    | false => exact plainA_pick e h
  | .fail, r, h => by cases h

theorem covV_scal1 {σ : Nat → Option Nat} {v : AV DC} (h : scal1 v = true) : covV σ v v := by
  cases v <;> first | (cases h; done) | exact trivial | rfl | exact ⟨rfl, rfl⟩
theorem covL_scal1 {σ : Nat → Option Nat} : ∀ {l : List (AV DC)}, l.all scal1 = true → covL σ l l
  | [], _ => trivial
  | v :: l, h => by
    simp only [List.all_cons, Bool.and_eq_true] at h
    exact ⟨covV_scal1 h.1, covL_scal1 h.2⟩
theorem covV_scal2 {σ : Nat → Option Nat} {v : AV DC} (h : scal2 v = true) : covV σ v v := by
  cases v
  case agg cs => exact covL_scal1 h
  all_goals exact covV_scal1 h
theorem covL_scal2 {σ : Nat → Option Nat} : ∀ {l : List (AV DC)}, l.all scal2 = true → covL σ l l
  | [], _ => trivial
  | v :: l, h => by
    simp only [List.all_cons, Bool.and_eq_true] at h
    exact ⟨covV_scal2 h.1, covL_scal2 h.2⟩
theorem covV_scal3 {σ : Nat → Option Nat} {v : AV DC} (h : scal3 v = true) : covV σ v v := by
  cases v
  case tuple cs => exact covL_scal2 h
  all_goals exact covV_scal2 h

/-- What a call over no memory comes to, it comes to over any; what is told of it may say less. -/
theorem pureV {P : Program} {X : Cx DC} (hX : Ok P X) {n : Nat} {f : FuncId} {args args' : List (AV DC)} {h : List (AO DC)} {v v' : AV DC} {l : List (W DC)} (hr : (call P X n f args' []).pick = some (.val v, l)) (ha : covL (at' []) args args') (hu : ∀ σ, covV σ v v') : FnOk P f args h (v', []) := by
  have hn : ∀ (i j : Nat), (List.replicate h.length (none : Option Nat))[i]? = some (some j) → False := fun i j e => by
    rw [List.getElem?_replicate] at e
    split at e <;> cases e
  refine frame [] (List.replicate h.length none) (fn_ok hX (r := (v, l)) hr) ha ?_ rfl ⟨by simp [St.apps], Nat.le_refl _, fun i e => ?_, fun i j _ e => (hn i j e).elim, fun i o hi e => ?_, fun i j o e => (hn i j e).elim, fun i i' j o o' e => (hn i j e).elim⟩ (hu _)
  · trivial
  · refine ⟨?_, rfl, fun j e => by cases e⟩
    rw [List.getElem?_replicate] at e
    split at e
    · assumption
    · cases e
  · have : i < h.length := (List.getElem?_eq_some_iff.1 e).1
    omega

theorem Ok.pureA {P : Program} {X : Cx DC} (hX : Ok P X) (n : Nat) (f : FuncId) (hb : (match P.funcs[f]? with | some fn => !fn.body.isNone | none => false) = true) : Ok P (X.sum f (pureSumA P X n f)) := by
  refine hX.sum hb fun args h t r ht hp => ?_
  unfold pureSumA at ht
  split at ht
  · rename_i ha
    cases ht
    obtain ⟨l, h1, h2, h3⟩ := plainA_pick _ hp
    obtain ⟨v, w⟩ := r
    simp only at h1 h2 h3
    subst h2
    exact pureV hX h1 (covL_scal2 ha) fun σ => covV_scal3 h3
  · cases ht
end Go.Proofs.Ytngcbpcfgolifaa.Ev
