/- Whatever the evaluator's tree picks, the code does. -/
import Derived.Test.YtgljicadcegilaaEvOp
import Derived.Test.YtgljicadcegilaaEvJoin
import Derived.LoopN
namespace Go.Proofs.Ytgljicadcegilaa.Ev
open Go.RowKit
set_option linter.unusedVariables false
set_option linter.unusedSimpArgs false
section
variable {w0 : World} {own : List Nat}

/-- How code, or a call, is left. -/
inductive Res where
  | exit (e : Exit)
  | val (v : Value)

def ExR (ρ : List Nat) : Ex DC → Res → Prop
  | .normal, .exit .normal => True
  | .exit i, .exit (.exit j) => i = j
  | .ret, .exit .ret => True
  | .val a, .val v => VRel ρ a v
  | _, _ => False

def Good (w0 : World) (own ρ : List Nat) (s : St DC) (r : Ex DC × List (W DC)) (res : Res) (a : Act) (w : World) : Prop :=
  ∃ ρ', Ext ρ ρ' ∧ ExR ρ' r.1 res ∧ SR w0 own ρ' (s.apps r.2) a w

theorem Good.before {ρ ρ1 : List Nat} {s : St DC} {l : List (W DC)} {q : Ex DC × List (W DC)} {res : Res} {a : Act} {w : World} (hx : Ext ρ ρ1) (h : Good w0 own ρ1 (s.apps l) q res a w) : Good w0 own ρ s (q.1, l ++ q.2) res a w := by
  obtain ⟨ρ', h1, h2, h3⟩ := h
  exact ⟨ρ', hx.trans h1, h2, by rw [apps_append]; exact h3⟩

theorem ExR.any {ρ ρ0 : List Nat} {e : Ex DC} (he : ∀ v, e ≠ .val v) {res : Res} (h : ExR ρ e res) : ExR ρ0 e res := by
  cases e with
  | val v => exact absurd rfl (he v)
  | normal => cases res with
    | exit E => cases E <;> exact h
    | val u => exact h
  | ret => cases res with
    | exit E => cases E <;> exact h
    | val u => exact h
  | exit i => cases res with
    | exit E => cases E <;> exact h
    | val u => exact h
theorem ExR.mono {ρ ρ' : List Nat} (H : Ext ρ ρ') {e : Ex DC} {res : Res} (h : ExR ρ e res) : ExR ρ' e res := by
  cases e with
  | val v => cases res with
    | exit E => cases E <;> exact h
    | val u => exact VRel.mono H v u h
  | normal => exact ExR.any (fun v e => by cases e) h
  | ret => exact ExR.any (fun v e => by cases e) h
  | exit i => exact ExR.any (fun v e => by cases e) h

theorem joinE_sound {n0 : Nat} {x : Bool} {e1 e2 e3 : Ex DC} (h : joinE (D := DC) n0 x e1 e2 = some e3) {ρ0 ρ : List Nat} (hx : Ext ρ0 ρ) (hl : ρ0.length = n0) {res : Res} (hr : ExR ρ (bif x then e1 else e2) res) : ExR ρ0 e3 res := by
  cases e1 <;> cases e2 <;> simp only [joinE] at h <;> first | (cases h; done) | skip
  · cases h
    exact ExR.any (ρ := ρ) (fun v e => by cases e) (by cases x <;> exact hr)
  · split at h
    · rename_i i j hij
      cases h
      have := Nat.eq_of_beq_eq_true hij
      subst this
      exact ExR.any (ρ := ρ) (fun v e => by cases e) (by cases x <;> exact hr)
    · cases h
  · cases h
    exact ExR.any (ρ := ρ) (fun v e => by cases e) (by cases x <;> exact hr)
  · rename_i a b
    cases hm : mergeV (D := DC) n0 x a b with
    | none => rw [hm] at h; cases h
    | some v =>
      rw [hm] at h
      cases h
      cases res with
      | exit E =>
        have : ExR ρ (.val (bif x then a else b)) (.exit E) := by cases x <;> exact hr
        cases E <;> exact this
      | val u =>
        refine mergeV_low hm hx hl (mergeV_rel hm ?_)
        cases x <;> exact hr

theorem joinT_sound {s0 : St DC} {base : Nat} : ∀ (t : T DC (Ex DC × List (W DC))) (y : Ex DC × List (W DC)), (joinT s0 base t).pick = some y →
    ∃ x, t.pick = some x ∧ ∀ {ρ0 : List Nat} {a0 : Act} {w00 : World} {res : Res} {a : Act} {w : World}, SR w0 own ρ0 s0 a0 w00 → Good w0 own ρ0 s0 x res a w → Good w0 own ρ0 s0 y res a w
  | .ret z, y, h => ⟨y, h, fun _ h => h⟩
  | .fail, y, h => by cases h
  | .br b t e, y, h => by
    have iht := joinT_sound (s0 := s0) (base := base) t
    have ihe := joinT_sound (s0 := s0) (base := base) e
    have plain : (T.br (D := DC) b (joinT s0 base t) (joinT s0 base e)).pick = some y → ∃ x, (T.br (D := DC) b t e).pick = some x ∧ ∀ {ρ0 : List Nat} {a0 : Act} {w00 : World} {res : Res} {a : Act} {w : World}, SR w0 own ρ0 s0 a0 w00 → Good w0 own ρ0 s0 x res a w → Good w0 own ρ0 s0 y res a w := by
      intro h
      rcases T.br_some h with ⟨h1, h2⟩ | ⟨h1, h2⟩
      · obtain ⟨x, hx1, hx2⟩ := iht y h2
        exact ⟨x, by simp only [T.pick]; rw [show bB b = true from h1]; exact hx1, hx2⟩
      · obtain ⟨x, hx1, hx2⟩ := ihe y h2
        exact ⟨x, by simp only [T.pick]; rw [show bB b = false from h1]; exact hx1, hx2⟩
    simp only [joinT] at h
    split at h
    · rename_i e1 l1 e2 l2 ht he
      have ht' : (joinT s0 base t).pick = some (e1, l1) := by rw [ht]; rfl
      have he' : (joinT s0 base e).pick = some (e2, l2) := by rw [he]; rfl
      have hp : (T.br (D := DC) b (.ret (e1, l1)) (.ret (e2, l2))).pick = some y → _ := fun h => plain (by rw [ht, he]; exact h)
      cases hj : joinE (D := DC) s0.heap.length b e1 e2 with
      | none => rw [hj] at h; exact hp h
      | some e3 =>
        rw [hj] at h
        simp only [] at h
        cases hw : joinW (D := DC) s0 base b l1 l2 with
        | none => rw [hw] at h; exact hp h
        | some l3 =>
          rw [hw] at h
          have := T.ret_some h
          subst this
          have fin : ∀ {ρ0 : List Nat} {a0 : Act} {w00 : World} {res : Res} {a : Act} {w : World}, SR w0 own ρ0 s0 a0 w00 → Good w0 own ρ0 s0 (bif bB b then (e1, l1) else (e2, l2)) res a w → Good w0 own ρ0 s0 (e3, l3) res a w := by
            intro ρ0 a0 w00 res a w H0 ⟨ρ', g1, g2, g3⟩
            refine ⟨ρ0, Ext.refl _, joinE_sound hj g1 H0.2.len ?_, joinW_sound hw g1 H0 ?_⟩
            · change ExR ρ' (bif bB b then e1 else e2) res
              generalize bB b = c at *
              cases c <;> exact g2
            · change SR w0 own ρ' (s0.apps (bif bB b then l1 else l2)) a w
              generalize bB b = c at *
              cases c <;> exact g3
          cases hb : bB b with
          | true =>
            obtain ⟨x, hx1, hx2⟩ := iht _ ht'
            refine ⟨x, by simp only [T.pick]; rw [hb]; exact hx1, fun H0 hg => fin H0 ?_⟩
            rw [hb]
            exact hx2 H0 hg
          | false =>
            obtain ⟨x, hx1, hx2⟩ := ihe _ he'
            refine ⟨x, by simp only [T.pick]; rw [hb]; exact hx1, fun H0 hg => fin H0 ?_⟩
            rw [hb]
            exact hx2 H0 hg
    · exact plain h
end
end Go.Proofs.Ytgljicadcegilaa.Ev
