/- Formulas of bits, decided with the bit first that decides most. Conditions: none. -/
import Derived.Test.YtngcbpcfgolifaaEvTaut
namespace Go.Proofs.Ytngcbpcfgolifaa.Ev
set_option linter.unusedVariables false
set_option linter.unusedSimpArgs false

theorem cmp_known (op : BinOp) (x a c : Int) : litCmp op x c = cond (litCmp .eql x a) (litCmp op a c) (litCmp op x c) := by
  rw [eql_eq]
  by_cases h : x = a
  · rw [decide_eq_true h, h]; rfl
  · rw [decide_eq_false h]; rfl
/-- The bit that a formula asks for first. -/
def BE.first : BE → Nat
  | .lit _ => 0
  | .v n => n
  | .not a => a.first
  | .and a _ => a.first
  | .beq a _ => a.first
  | .cond c _ _ => c.first

/-- True whatever the bits are. -/
def BE.taut2 : Nat → BE → Bool
  | _, .lit b => b
  | 0, _ => false
  | n + 1, e => match taut2 n (e.sub e.first true) with
    | true => taut2 n (e.sub e.first false)
    | false => false

theorem BE.taut2_den (f : List Bool) : ∀ (n : Nat) (e : BE), taut2 n e = true → e.den f = true
  | 0, .lit b, h => by unfold taut2 at h; exact h
  | _ + 1, .lit b, h => by unfold taut2 at h; exact h
  | 0, .v _, h => by cases h
  | 0, .not _, h => by cases h
  | 0, .and _ _, h => by cases h
  | 0, .beq _ _, h => by cases h
  | 0, .cond _ _ _, h => by cases h
  | n + 1, .v m, h => step f n _ (taut2_den f n) h
  | n + 1, .not a, h => step f n _ (taut2_den f n) h
  | n + 1, .and a b, h => step f n _ (taut2_den f n) h
  | n + 1, .beq a b, h => step f n _ (taut2_den f n) h
  | n + 1, .cond a b c, h => step f n _ (taut2_den f n) h
where
  step (f : List Bool) (n : Nat) (e : BE) (ih : ∀ e : BE, taut2 n e = true → e.den f = true) (h : (match taut2 n (e.sub e.first true) with | true => taut2 n (e.sub e.first false) | false => false) = true) : e.den f = true := by
    cases h1 : taut2 n (e.sub e.first true) with
    | false => rw [h1] at h; cases h
    | true =>
      rw [h1] at h
      cases hb : f.getD e.first false with
      | true => rw [← sub_den hb e]; exact ih _ h1
      | false => rw [← sub_den hb e]; exact ih _ h

/-- A tree that fails where one test is true, and has one leaf where it is false. -/
def T.guarded {α : Type} : T DC α → Option (Bool × α)
  | .br x .fail (.ret a) => some (bB x, a)
  | _ => none
theorem guarded_pick {t : T DC (Ex DC × List (W DC))} {g : Bool} {v : Ex DC} (h : t.guarded.map (fun p => (p.1, p.2.1)) = some (g, v)) (hg : g = false) : t.pick.map (·.1) = some v := by
  subst hg
  unfold T.guarded at h
  split at h
  · simp only [Option.map_some, Option.some.injEq, Prod.mk.injEq] at h
    obtain ⟨h1, h2⟩ := h
    simp only [T.pick, h1, cond_false, Option.map_some, h2]
  · cases h
end Go.Proofs.Ytngcbpcfgolifaa.Ev
