/- One value for two, one list of writes for two: sound. -/
import Derived.Test.YtngcbpcfgolifaaEvRel
namespace Go.Proofs.Ytngcbpcfgolifaa.Ev
open Go.RowKit
set_option linter.unusedVariables false
set_option linter.unusedSimpArgs false
section
variable {ρ ρ0 : List Rb}

theorem mergeI_den (x : Bool) (a b : AI DC) : (mergeI (D := DC) x a b).den = bif x then a.den else b.den := by
  cases a with
  | lit p =>
    cases b with
    | lit q =>
      simp only [mergeI]
      by_cases h : p = q
      · subst h; simp only [decide_true, if_true, AI.den]; cases x <;> rfl
      · simp only [h, decide_false, Bool.false_eq_true, if_false]; cases x <;> rfl
    | sym q => cases x <;> rfl
  | sym p => cases b <;> cases x <;> rfl
theorem mergeB_den (x : Bool) (a b : AB DC) : (mergeB (D := DC) x a b).den = bif x then a.den else b.den := by
  cases a with
  | lit p =>
    cases b with
    | lit q => cases p <;> cases q <;> cases x <;> rfl
    | sym q => cases p <;> cases x <;> rfl
  | sym p =>
    cases b with
    | lit q => cases q <;> cases x <;> rfl
    | sym q => cases x <;> rfl

theorem andB_den (a b : AB DC) : (andB a b).den = (a.den && b.den) := by
  cases a with
  | lit x => cases x <;> cases b <;> simp [andB, AB.den]
  | sym x =>
    cases b with
    | lit y => cases y <;> simp [andB, AB.den]
    | sym y => rfl

theorem notB_den (a : AB DC) : (notB a).den = !a.den := by cases a <;> rfl

theorem anSame_den {a b : AN DC} (h : anSame a b = true) : a = b := by
  cases a <;> cases b <;> simp only [anSame, Bool.false_eq_true] at h
  rw [Nat.eq_of_beq_eq_true h]

theorem capSame_den {a b : Cap DC} (h : capSame a b = true) : a = b := by
  cases a <;> cases b <;> simp only [capSame, Bool.false_eq_true] at h
  · rw [anSame_den h]
  · rw [Nat.eq_of_beq_eq_true h]
  · rfl
  · rfl

/-- What is merged of two stands for the one that the condition picks. -/
theorem merge1_rel {n0 : Nat} {x : Bool} {p q m : AV DC} {v : Value} (h : merge1 (D := DC) n0 x p q = some m) (hv : VRel ρ (bif x then p else q) v) : VRel ρ m v := by
  unfold merge1 at h
  split at h
  all_goals (try (split at h)) <;> (try (cases h; done)) <;> (try cases h)
  all_goals first
    | trivial
    | (cases x <;> exact hv)
    | (cases x <;> trivial)
    | skip
  · rw [VRel, mergeB_den]; cases x <;> exact hv
  · rename_i k a k' b hk
    have hk' : k = k' := by simpa using hk
    subst hk'
    rw [VRel, mergeI_den]; cases x <;> exact hv
  · rename_i a b hs
    have : a = b := by simpa [bytesSame] using hs
    subst this
    cases x <;> exact hv
  · rename_i b o b' o' hs
    simp only [Bool.and_eq_true] at hs
    have h1 := Nat.eq_of_beq_eq_true hs.1.1
    have h2 := anSame_den hs.2
    subst h1 h2
    cases x <;> exact hv
  · rename_i b o l c b' o' l' c' hs
    simp only [Bool.and_eq_true] at hs
    have h1 := Nat.eq_of_beq_eq_true hs.1.1.1.1
    have h2 := anSame_den hs.1.1.2
    have h3 := anSame_den hs.1.2
    have h4 := capSame_den hs.2
    subst h1 h2 h3 h4
    cases x <;> exact hv
  · rename_i b b' hs
    simp only [Bool.and_eq_true] at hs
    have h1 := Nat.eq_of_beq_eq_true hs.1
    subst h1
    cases x <;> exact hv
  · rename_i f g hs
    have : f = g := by
      cases f <;> cases g <;> simp only [fnSame, Bool.false_eq_true] at hs
      rw [Nat.eq_of_beq_eq_true hs]
    subst this
    cases x <;> exact hv

theorem low_id {n0 b : Nat} {r : Rb} (hb : Nat.blt b n0 = true) (hx : Ext ρ0 ρ) (hl : ρ0.length = n0) (hr : ρ[b]? = some r) : ρ0[b]? = some r := by
  have hlt : b < ρ0.length := by
    rw [hl]
    simpa [Nat.blt_eq] using hb
  have h0 : ρ0[b]? = some ρ0[b] := List.getElem?_eq_getElem hlt
  have := hx _ _ h0
  rw [this] at hr
  cases hr
  exact h0

theorem merge1_low {n0 : Nat} {x : Bool} {p q m : AV DC} {v : Value} (h : merge1 (D := DC) n0 x p q = some m) (hx : Ext ρ0 ρ) (hl : ρ0.length = n0) (hv : VRel ρ m v) : VRel ρ0 m v := by
  unfold merge1 at h
  split at h
  all_goals (try (split at h)) <;> (try (cases h; done)) <;> (try cases h)
  all_goals first
    | trivial
    | exact hv
    | skip
  · rename_i b o b' o' hs
    simp only [Bool.and_eq_true] at hs
    obtain ⟨r, hr, e⟩ := hv
    exact ⟨r, low_id hs.1.2 hx hl hr, e⟩
  · rename_i b o l c b' o' l' c' hs
    simp only [Bool.and_eq_true] at hs
    obtain ⟨r, hr, e⟩ := hv
    exact ⟨r, low_id hs.1.1.1.2 hx hl hr, e⟩
  · rename_i b b' hs
    simp only [Bool.and_eq_true] at hs
    obtain ⟨r, hr, e⟩ := hv
    exact ⟨r, low_id hs.2 hx hl hr, e⟩

theorem mergeL_rel {n0 : Nat} {x : Bool} : ∀ {p q m : List (AV DC)} {l : List Value}, mergeL (D := DC) n0 x p q = some m → VRels ρ (bif x then p else q) l → VRels ρ m l
  | [], [], m, l, h, hv => by
    simp only [mergeL, Option.some.injEq] at h
    subst h
    cases x <;> exact hv
  | a :: p, b :: q, m, l, h, hv => by
    simp only [mergeL] at h
    cases h1 : merge1 (D := DC) n0 x a b with
    | none => rw [h1] at h; cases h
    | some c =>
      rw [h1] at h
      cases h2 : mergeL (D := DC) n0 x p q with
      | none => rw [h2] at h; cases h
      | some r =>
        rw [h2] at h
        simp only [Option.some.injEq] at h
        subst h
        cases x
        · obtain ⟨v, vs, rfl, k1, k2⟩ := hv
          exact ⟨v, vs, rfl, merge1_rel h1 k1, mergeL_rel h2 k2⟩
        · obtain ⟨v, vs, rfl, k1, k2⟩ := hv
          exact ⟨v, vs, rfl, merge1_rel h1 k1, mergeL_rel h2 k2⟩
  | [], _ :: _, _, _, h, _ => by cases h
  | _ :: _, [], _, _, h, _ => by cases h

theorem mergeL_low {n0 : Nat} {x : Bool} : ∀ {p q m : List (AV DC)} {l : List Value}, mergeL (D := DC) n0 x p q = some m → Ext ρ0 ρ → ρ0.length = n0 → VRels ρ m l → VRels ρ0 m l
  | [], [], m, l, h, _, _, hv => by
    simp only [mergeL, Option.some.injEq] at h
    subst h
    exact hv
  | a :: p, b :: q, m, l, h, hx, hl, hv => by
    simp only [mergeL] at h
    cases h1 : merge1 (D := DC) n0 x a b with
    | none => rw [h1] at h; cases h
    | some c =>
      rw [h1] at h
      cases h2 : mergeL (D := DC) n0 x p q with
      | none => rw [h2] at h; cases h
      | some r =>
        rw [h2] at h
        simp only [Option.some.injEq] at h
        subst h
        obtain ⟨v, vs, rfl, k1, k2⟩ := hv
        exact ⟨v, vs, rfl, merge1_low h1 hx hl k1, mergeL_low h2 hx hl k2⟩
  | [], _ :: _, _, _, h, _, _, _ => by cases h
  | _ :: _, [], _, _, h, _, _, _ => by cases h

theorem merge2_cases {n0 : Nat} {x : Bool} {p q m : AV DC} (h : merge2 (D := DC) n0 x p q = some m) :
    (∃ a b c, p = .agg a ∧ q = .agg b ∧ m = .agg c ∧ mergeL (D := DC) n0 x a b = some c) ∨ merge1 (D := DC) n0 x p q = some m := by
  unfold merge2 at h
  split at h
  · rename_i a b
    split at h
    · rename_i l hl
      cases h
      exact .inl ⟨a, b, l, rfl, rfl, rfl, hl⟩
    · cases h
  · exact .inr h
theorem merge2_rel {n0 : Nat} {x : Bool} {p q m : AV DC} {v : Value} (h : merge2 (D := DC) n0 x p q = some m) (hv : VRel ρ (bif x then p else q) v) : VRel ρ m v := by
  rcases merge2_cases h with ⟨a, b, c, rfl, rfl, rfl, hl⟩ | h
  · cases x <;> (obtain ⟨vs, rfl, hv⟩ := hv; exact ⟨vs, rfl, mergeL_rel hl hv⟩)
  · exact merge1_rel h hv
theorem merge2_low {n0 : Nat} {x : Bool} {p q m : AV DC} {v : Value} (h : merge2 (D := DC) n0 x p q = some m) (hx : Ext ρ0 ρ) (hl : ρ0.length = n0) (hv : VRel ρ m v) : VRel ρ0 m v := by
  rcases merge2_cases h with ⟨a, b, c, rfl, rfl, rfl, hm⟩ | h
  · obtain ⟨vs, rfl, hv⟩ := hv; exact ⟨vs, rfl, mergeL_low hm hx hl hv⟩
  · exact merge1_low h hx hl hv
theorem mergeT_rel {n0 : Nat} {x : Bool} : ∀ {p q m : List (AV DC)} {l : List Value}, mergeT (D := DC) n0 x p q = some m → VRels ρ (bif x then p else q) l → VRels ρ m l
  | [], [], m, l, h, hv => by
    simp only [mergeT, Option.some.injEq] at h
    subst h
    cases x <;> exact hv
  | a :: p, b :: q, m, l, h, hv => by
    simp only [mergeT] at h
    cases h1 : merge2 (D := DC) n0 x a b with
    | none => rw [h1] at h; cases h
    | some c =>
      rw [h1] at h
      cases h2 : mergeT (D := DC) n0 x p q with
      | none => rw [h2] at h; cases h
      | some r =>
        rw [h2] at h
        simp only [Option.some.injEq] at h
        subst h
        cases x
        · obtain ⟨v, vs, rfl, k1, k2⟩ := hv
          exact ⟨v, vs, rfl, merge2_rel h1 k1, mergeT_rel h2 k2⟩
        · obtain ⟨v, vs, rfl, k1, k2⟩ := hv
          exact ⟨v, vs, rfl, merge2_rel h1 k1, mergeT_rel h2 k2⟩
  | [], _ :: _, _, _, h, _ => by cases h
  | _ :: _, [], _, _, h, _ => by cases h

theorem mergeT_low {n0 : Nat} {x : Bool} : ∀ {p q m : List (AV DC)} {l : List Value}, mergeT (D := DC) n0 x p q = some m → Ext ρ0 ρ → ρ0.length = n0 → VRels ρ m l → VRels ρ0 m l
  | [], [], m, l, h, _, _, hv => by
    simp only [mergeT, Option.some.injEq] at h
    subst h
    exact hv
  | a :: p, b :: q, m, l, h, hx, hl, hv => by
    simp only [mergeT] at h
    cases h1 : merge2 (D := DC) n0 x a b with
    | none => rw [h1] at h; cases h
    | some c =>
      rw [h1] at h
      cases h2 : mergeT (D := DC) n0 x p q with
      | none => rw [h2] at h; cases h
      | some r =>
        rw [h2] at h
        simp only [Option.some.injEq] at h
        subst h
        obtain ⟨v, vs, rfl, k1, k2⟩ := hv
        exact ⟨v, vs, rfl, merge2_low h1 hx hl k1, mergeT_low h2 hx hl k2⟩
  | [], _ :: _, _, _, h, _, _, _ => by cases h
  | _ :: _, [], _, _, h, _, _, _ => by cases h

theorem mergeV_cases {n0 : Nat} {x : Bool} {p q m : AV DC} (h : mergeV (D := DC) n0 x p q = some m) :
    (∃ a b c, p = .agg a ∧ q = .agg b ∧ m = .agg c ∧ mergeL (D := DC) n0 x a b = some c) ∨ (∃ a b c, p = .tuple a ∧ q = .tuple b ∧ m = .tuple c ∧ mergeT (D := DC) n0 x a b = some c) ∨ merge1 (D := DC) n0 x p q = some m := by
  unfold mergeV at h
  split at h
  · rename_i a b
    split at h
    · rename_i l hl
      cases h
      exact .inl ⟨a, b, l, rfl, rfl, rfl, hl⟩
    · cases h
  · rename_i a b
    split at h
    · rename_i l hl
      cases h
      exact .inr (.inl ⟨a, b, l, rfl, rfl, rfl, hl⟩)
    · cases h
  · exact .inr (.inr h)

theorem mergeV_rel {n0 : Nat} {x : Bool} {p q m : AV DC} {v : Value} (h : mergeV (D := DC) n0 x p q = some m) (hv : VRel ρ (bif x then p else q) v) : VRel ρ m v := by
  rcases mergeV_cases h with ⟨a, b, c, rfl, rfl, rfl, hl⟩ | ⟨a, b, c, rfl, rfl, rfl, hl⟩ | h
  · cases x <;> (obtain ⟨vs, rfl, hv⟩ := hv; exact ⟨vs, rfl, mergeL_rel hl hv⟩)
  · cases x <;> (obtain ⟨vs, rfl, hv⟩ := hv; exact ⟨vs, rfl, mergeT_rel hl hv⟩)
  · exact merge1_rel h hv

theorem mergeV_low {n0 : Nat} {x : Bool} {p q m : AV DC} {v : Value} (h : mergeV (D := DC) n0 x p q = some m) (hx : Ext ρ0 ρ) (hl : ρ0.length = n0) (hv : VRel ρ m v) : VRel ρ0 m v := by
  rcases mergeV_cases h with ⟨a, b, c, rfl, rfl, rfl, hm⟩ | ⟨a, b, c, rfl, rfl, rfl, hm⟩ | h
  · obtain ⟨vs, rfl, hv⟩ := hv; exact ⟨vs, rfl, mergeL_low hm hx hl hv⟩
  · obtain ⟨vs, rfl, hv⟩ := hv; exact ⟨vs, rfl, mergeT_low hm hx hl hv⟩
  · exact merge1_low h hx hl hv
end
end Go.Proofs.Ytngcbpcfgolifaa.Ev
