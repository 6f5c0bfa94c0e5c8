/- Whatever the evaluator's tree picks, the code does. -/
import Derived.Test.YtngcbpcfgolifaaEvOp
import Derived.Test.YtngcbpcfgolifaaEvJoin
import Derived.LoopN
namespace Go.Proofs.Ytngcbpcfgolifaa.Ev
open Go.RowKit
set_option linter.unusedVariables false
set_option linter.unusedSimpArgs false
section
variable {w0 : World} {own : List Nat}

/-- How code, or a call, is left. -/
inductive Res where
  | exit (e : Exit)
  | val (v : Value)

def ExR (ρ : List Rb) : Ex DC → Res → Prop
  | .normal, .exit .normal => True
  | .exit i, .exit (.exit j) => i = j
  | .ret, .exit .ret => True
  | .val a, .val v => VRel ρ a v
  | _, _ => False

def Good (w0 : World) (own : List Nat) (ρ : List Rb) (s : St DC) (r : Ex DC × List (W DC)) (res : Res) (a : Act) (w : World) : Prop :=
  ∃ ρ', Ext ρ ρ' ∧ ExR ρ' r.1 res ∧ SR w0 own ρ' (s.apps r.2) a w

theorem Good.before {ρ ρ1 : List Rb} {s : St DC} {l : List (W DC)} {q : Ex DC × List (W DC)} {res : Res} {a : Act} {w : World} (hx : Ext ρ ρ1) (h : Good w0 own ρ1 (s.apps l) q res a w) : Good w0 own ρ s (q.1, l ++ q.2) res a w := by
  obtain ⟨ρ', h1, h2, h3⟩ := h
  exact ⟨ρ', hx.trans h1, h2, by rw [apps_append]; exact h3⟩

theorem ExR.any {ρ ρ0 : List Rb} {e : Ex DC} (he : ∀ v, e ≠ .val v) {res : Res} (h : ExR ρ e res) : ExR ρ0 e res := by
  cases e with
  | val v => exact absurd rfl (he v)
  | normal => cases res with
    | exit E => cases E <;> exact h
    | val u => exact h
  | ret => cases res with
    | exit E => cases E <;> exact h
    | val u => exact h
  | exit i => cases res with
    | exit E => cases E <;> exact h
    | val u => exact h
theorem ExR.mono {ρ ρ' : List Rb} (H : Ext ρ ρ') {e : Ex DC} {res : Res} (h : ExR ρ e res) : ExR ρ' e res := by
  cases e with
  | val v => cases res with
    | exit E => cases E <;> exact h
    | val u => exact VRel.mono H v u h
  | normal => exact ExR.any (fun v e => by cases e) h
  | ret => exact ExR.any (fun v e => by cases e) h
  | exit i => exact ExR.any (fun v e => by cases e) h

theorem joinE_sound {n0 : Nat} {x : Bool} {e1 e2 e3 : Ex DC} (h : joinE (D := DC) n0 x e1 e2 = some e3) {ρ0 ρ : List Rb} (hx : Ext ρ0 ρ) (hl : ρ0.length = n0) {res : Res} (hr : ExR ρ (bif x then e1 else e2) res) : ExR ρ0 e3 res := by
  cases e1 <;> cases e2 <;> simp only [joinE] at h <;> first | (cases h; done) | skip
  · cases h
    exact ExR.any (ρ := ρ) (fun v e => by cases e) (by cases x <;> exact hr)
  · split at h
    · rename_i i j hij
      cases h
      have := Nat.eq_of_beq_eq_true hij
      subst this
      exact ExR.any (ρ := ρ) (fun v e => by cases e) (by cases x <;> exact hr)
    · cases h
  · cases h
    exact ExR.any (ρ := ρ) (fun v e => by cases e) (by cases x <;> exact hr)
  · rename_i a b
    cases hm : mergeV (D := DC) n0 x a b with
    | none => rw [hm] at h; cases h
    | some v =>
      rw [hm] at h
      cases h
      cases res with
      | exit E =>
        have : ExR ρ (.val (bif x then a else b)) (.exit E) := by cases x <;> exact hr
        cases E <;> exact this
      | val u =>
        refine mergeV_low hm hx hl (mergeV_rel hm ?_)
        cases x <;> exact hr

theorem guardOf_some {α : Type} {t : T DC α} {g : GR DC α} (h : guardOf t = some g) : (g = .no ∧ t.pick = none) ∨ ∃ c a, g = .yes c a ∧ (c.den = true → t.pick = some a) := by
  unfold guardOf at h
  split at h
  · cases h; exact .inr ⟨_, _, rfl, fun _ => rfl⟩
  · rename_i b a
    cases h
    refine .inr ⟨_, _, rfl, fun hb => ?_⟩
    simp only [T.pick]
    rw [show bB b = true from hb]
    rfl
  · cases h; exact .inl ⟨rfl, rfl⟩
  · cases h
theorem mkG_some {α : Type} {g : AB DC} {a y : α} (h : (mkG g a).pick = some y) : g.den = true ∧ a = y := by
  cases g with
  | lit b =>
    cases b
    · cases h
    · exact ⟨rfl, T.ret_some h⟩
  | sym b =>
    rcases T.br_some h with ⟨h1, h2⟩ | ⟨_, h2⟩
    · exact ⟨h1, T.ret_some h2⟩
    · cases h2

/-- What the joined tree picks, and what one of both did. -/
def Low (w0 : World) (own : List Nat) (s0 : St DC) (x y : Ex DC × List (W DC)) : Prop :=
  ∀ {ρ0 : List Rb} {a0 : Act} {w00 : World} {res : Res} {a : Act} {w : World}, SR w0 own ρ0 s0 a0 w00 → Good w0 own ρ0 s0 x res a w → Good w0 own ρ0 s0 y res a w

theorem joinB_sound {s0 : St DC} {base : Nat} {b : Bool} {t e : T DC (Ex DC × List (W DC))} {y : Ex DC × List (W DC)} (h : (joinB (D := DC) s0 base b t e).pick = some y) : ∃ x, (T.br (D := DC) b t e).pick = some x ∧ Low w0 own s0 x y := by
  have plain : (T.br (D := DC) b t e).pick = some y → ∃ x, (T.br (D := DC) b t e).pick = some x ∧ Low w0 own s0 x y := fun h => ⟨y, h, fun _ h => h⟩
  have hT : ∀ {x}, b = true → t.pick = some x → (T.br (D := DC) b t e).pick = some x := fun {x} hb h1 => by rw [hb]; exact h1
  have hF : ∀ {x}, b = false → e.pick = some x → (T.br (D := DC) b t e).pick = some x := fun {x} hb h1 => by rw [hb]; exact h1
  unfold joinB at h
  split at h
  · cases h
  · rename_i g a h1 h2
    obtain ⟨h3, rfl⟩ := mkG_some h
    rw [andB_den] at h3
    have h3' : b = true ∧ g.den = true := by simpa [AB.den] using h3
    rcases guardOf_some h1 with ⟨e, _⟩ | ⟨c, a', e, hp⟩
    · cases e
    · cases e
      exact ⟨_, hT h3'.1 (hp h3'.2), fun _ h => h⟩
  · rename_i g a h1 h2
    obtain ⟨h3, rfl⟩ := mkG_some h
    rw [andB_den, notB_den] at h3
    have h3' : b = false ∧ g.den = true := by simpa [AB.den] using h3
    rcases guardOf_some h2 with ⟨e, _⟩ | ⟨c, a', e, hp⟩
    · cases e
    · cases e
      exact ⟨_, hF h3'.1 (hp h3'.2), fun _ h => h⟩
  · rename_i g1 a g2 c h1 h2
    unfold join2 at h
    cases hj : joinE (D := DC) s0.heap.length b a.1 c.1 with
    | none => rw [hj] at h; exact plain h
    | some e3 =>
      rw [hj] at h
      simp only [] at h
      cases hw : joinW (D := DC) s0 base b a.2 c.2 with
      | none => rw [hw] at h; exact plain h
      | some l3 =>
        rw [hw] at h
        obtain ⟨h3, rfl⟩ := mkG_some h
        rw [mergeB_den] at h3
        have fin : Low w0 own s0 (bif bB b then a else c) (e3, l3) := by
          intro ρ0 a0 w00 res a' w H0 ⟨ρ', g1, g2, g3⟩
          refine ⟨ρ0, Ext.refl _, joinE_sound hj g1 H0.2.len ?_, joinW_sound hw g1 H0 ?_⟩
          · change ExR ρ' (bif bB b then a.1 else c.1) res
            generalize bB b = q at *
            cases q <;> exact g2
          · change SR w0 own ρ' (s0.apps (bif bB b then a.2 else c.2)) a' w
            generalize bB b = q at *
            cases q <;> exact g3
        cases hb : b with
        | true =>
          rw [hb] at h3
          rcases guardOf_some h1 with ⟨e, _⟩ | ⟨c', a', e, hp⟩
          · cases e
          · cases e
            rw [show bB b = true from hb] at fin
            exact ⟨a, by rw [← hb]; exact hT hb (hp h3), fin⟩
        | false =>
          rw [hb] at h3
          rcases guardOf_some h2 with ⟨e, _⟩ | ⟨c', a', e, hp⟩
          · cases e
          · cases e
            rw [show bB b = false from hb] at fin
            exact ⟨c, by rw [← hb]; exact hF hb (hp h3), fin⟩
  · exact plain h

theorem joinT_sound {s0 : St DC} {base : Nat} : ∀ (t : T DC (Ex DC × List (W DC))) (y : Ex DC × List (W DC)), (joinT s0 base t).pick = some y →
    ∃ x, t.pick = some x ∧ ∀ {ρ0 : List Rb} {a0 : Act} {w00 : World} {res : Res} {a : Act} {w : World}, SR w0 own ρ0 s0 a0 w00 → Good w0 own ρ0 s0 x res a w → Good w0 own ρ0 s0 y res a w
  | .ret z, y, h => ⟨y, h, fun _ h => h⟩
  | .fail, y, h => by cases h
  | .br b t e, y, h => by
    simp only [joinT] at h
    obtain ⟨x, h1, h2⟩ := joinB_sound (w0 := w0) (own := own) h
    rcases T.br_some h1 with ⟨hb, h1⟩ | ⟨hb, h1⟩
    · obtain ⟨z, g1, g2⟩ := joinT_sound t x h1
      exact ⟨z, by simp only [T.pick]; rw [show bB b = true from hb]; exact g1, fun H0 hg => h2 H0 (g2 H0 hg)⟩
    · obtain ⟨z, g1, g2⟩ := joinT_sound e x h1
      exact ⟨z, by simp only [T.pick]; rw [show bB b = false from hb]; exact g1, fun H0 hg => h2 H0 (g2 H0 hg)⟩
end
end Go.Proofs.Ytngcbpcfgolifaa.Ev
