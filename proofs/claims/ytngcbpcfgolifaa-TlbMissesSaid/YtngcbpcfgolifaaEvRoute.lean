/- A tree whose tests are known is the leaf at the end of its road. Conditions: none. -/
import Derived.Test.YtngcbpcfgolifaaEvTaut2
namespace Go.Proofs.Ytngcbpcfgolifaa.Ev
open Go.RowKit Go.WideShapes Go.ChangeShapes Go.ChangeAt
set_option linter.unusedVariables false
set_option linter.unusedSimpArgs false

/-- The tests on a road through a tree, and the leaf at its end. -/
def T.route {α : Type} : List Bool → T DC α → Option (List Bool × α)
  | [], .ret a => some ([], a)
  | true :: ds, .br x t _ => match t.route ds with
    | some (l, a) => some (bB x :: l, a)
    | none => none
  | false :: ds, .br x _ e => match e.route ds with
    | some (l, a) => some (bB x :: l, a)
    | none => none
  | _, _ => none

theorem route_pick {α : Type} : ∀ (ds : List Bool) (t : T DC α) (a : α), t.route ds = some (ds, a) → t.pick = some a
  | [], .ret a, b, h => by
    simp only [T.route, Option.some.injEq, Prod.mk.injEq, true_and] at h
    subst h
    rfl
  | [], .br _ _ _, _, h => by cases h
  | [], .fail, _, h => by cases h
  | true :: ds, .ret _, _, h => by cases h
  | true :: ds, .fail, _, h => by cases h
  | false :: ds, .ret _, _, h => by cases h
  | false :: ds, .fail, _, h => by cases h
  | true :: ds, .br x t e, b, h => by
    simp only [T.route] at h
    split at h
    · rename_i l a g
      simp only [Option.some.injEq, Prod.mk.injEq, List.cons.injEq] at h
      obtain ⟨⟨h1, rfl⟩, rfl⟩ := h
      simp only [T.pick, h1, cond_true]
      exact route_pick _ t _ g
    · cases h
  | false :: ds, .br x t e, b, h => by
    simp only [T.route] at h
    split at h
    · rename_i l a g
      simp only [Option.some.injEq, Prod.mk.injEq, List.cons.injEq] at h
      obtain ⟨⟨h1, rfl⟩, rfl⟩ := h
      simp only [T.pick, h1, cond_false]
      exact route_pick _ e _ g
    · cases h

theorem route_pick1 {t : T DC (Ex DC × List (W DC))} {ds cs : List Bool} {v : Ex DC} (h : (t.route ds).map (fun p => (p.1, p.2.1)) = some (cs, v)) (hc : cs = ds) : t.pick.map (·.1) = some v := by
  subst hc
  obtain ⟨⟨l, a⟩, h1, h2⟩ := Option.map_eq_some_iff.1 h
  simp only [Prod.mk.injEq] at h2
  obtain ⟨rfl, rfl⟩ := h2
  rw [route_pick _ t a h1]
  rfl
theorem route_at {α : Type} {t : T DC α} {ds cs : List Bool} {a : α} (h : t.route ds = some (cs, a)) (hc : cs = ds) : t.pick = some a := by
  subst hc
  exact route_pick _ t a h
theorem cons2 {α : Type} {a b : α} {l m : List α} (h : a = b) (k : l = m) : a :: l = b :: m := by rw [h, k]
theorem road_at {α β : Type} {t : T DC (α × β)} {ds cs : List Bool} {v : α} (h : (t.route ds).map (fun p => (p.1, p.2.1)) = some (cs, v)) (hc : cs = ds) : ∃ l, t.pick = some (v, l) := by
  subst hc
  obtain ⟨⟨l, a⟩, h1, h2⟩ := Option.map_eq_some_iff.1 h
  simp only [Prod.mk.injEq] at h2
  obtain ⟨rfl, rfl⟩ := h2
  exact ⟨a.2, route_pick _ t a h1⟩
theorem cond_and {a b : Bool} (h : cond a b false = true) : a = true ∧ b = true := by
  cases a
  · cases h
  · exact ⟨rfl, h⟩

/-- As 'law_true2', of arguments that stand for the values. -/
theorem law_true3 {P : Program} {X : Cx DC} (hX : Ok P X) {n : Nat} {f : FuncId} {vs : List Value} {args : List (AV DC)} {b : Bool} (ha : VRels [] args vs) (hr : (call P X n f args []).pick.map (·.1) = some (.val (.bool (.sym b)))) (hb : b = true) (w : World) (hpn : Pin w [] := by first | assumption | exact fun _ _ h => absurd h (by simp [pins])) :
    Calls P f vs.toArray w fun e w' => e = .returned (.bool true) ∧ Below w.heap.size w w' := by
  obtain ⟨⟨v, l⟩, h1, h2⟩ := Option.map_eq_some_iff.1 hr
  simp only [] at h2
  subst h2
  refine (law_sound hX h1 (vals := vs.toArray) ha w).mono fun e w' hp => ?_
  obtain ⟨u, ρ, e1, e2, e3⟩ := hp
  have e2' : u = .bool b := e2
  rw [e1, e2', hb]
  exact ⟨rfl, e3⟩
end Go.Proofs.Ytngcbpcfgolifaa.Ev
