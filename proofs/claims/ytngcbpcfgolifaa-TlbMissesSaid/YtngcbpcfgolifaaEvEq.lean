/- '==' of structs and arrays of numbers and bools is told by their cells. -/
import Derived.Test.YtngcbpcfgolifaaEvOps
import Derived.Test.YtngcbpcfgolifaaEvMerge
namespace Go.Proofs.Ytngcbpcfgolifaa.Ev
open Go.RowKit
set_option linter.unusedVariables false
set_option linter.unusedSimpArgs false
section
variable {P : Program} {ρ : List Rb} {w : World}

def valOf (g : Bool) (l : List Value) : Value := bif g then .agg l.toArray else l.headD Go.undef

theorem run_part {t : TypeId} {g : Bool} {n : Nat} (hg : isAggT P t = some g) (hn : sizeT P t = some n) (cs : List Value) (off : Nat) (h1 : g = false → (cs.drop off).take n ≠ []) (w : World) :
    (part t cs.toArray off).run P w = .ok (valOf g ((cs.drop off).take n)) w := by
  cases g with
  | true =>
    simp only [part, Sem.run_bind, run_isAggT hg, Result.andThen_ok, if_true, run_sizeT hn, Sem.run_pure, valOf, cond_true]
    congr 2
    apply Array.ext'
    rw [Array.toList_extract]
    simp [List.extract]
  | false =>
    have h := h1 rfl
    simp only [part, Sem.run_bind, run_isAggT hg, Result.andThen_ok, Bool.false_eq_true, if_false, valOf, cond_false]
    have hl : off < cs.length := by
      rcases Nat.lt_or_ge off cs.length with hl | hl
      · exact hl
      · rw [List.drop_eq_nil_of_le hl] at h; simp at h
    have hd : cs.drop off = cs[off] :: cs.drop (off + 1) := List.drop_eq_getElem_cons hl
    have hn0 : n ≠ 0 := fun e => by subst e; simp at h
    obtain ⟨m, rfl⟩ : ∃ m, n = m + 1 := ⟨n - 1, by omega⟩
    rw [hd]
    simp only [List.take_succ_cons, List.headD_cons]
    have : (cs.toArray)[off]? = some cs[off] := by simp [hl]
    rw [this]
    rfl

theorem boolEq_den (n : Bool) (a b : AB DC) : (boolEq n a b).den = (bif n then !(a.den == b.den) else (a.den == b.den)) := by
  cases a <;> cases b <;> cases n <;> rfl

theorem eq1_int {k k' : IntKind} {a b : AI DC} {r : AB DC} (h : eq1 (.int k a) (.int k' b) = some r) : k = k' ∧ r.den = (a.den == b.den) := by
  cases a <;> cases b <;> simp only [eq1] at h <;> split at h <;> first
    | (cases h; exact ⟨by simpa using ‹decide (k = k') = true›, rfl⟩)
    | (cases h; done)

theorem eq1_bool {a b : AB DC} {r : AB DC} (h : eq1 (.bool a) (.bool b) = some r) : r.den = (a.den == b.den) := by
  simp only [eq1, Option.some.injEq] at h
  subst h
  rw [boolEq_den]
  rfl

/-- What is to be shown of one type. -/
def EqOk (P : Program) (w : World) (D : Nat) (t : TypeId) (us vs : List Value) (b : Bool) : Prop :=
  ∃ g, isAggT P t = some g ∧ (Op.equalIn D t (valOf g us) (valOf g vs)).run P w = .ok b w ∧ (g = false → us ≠ [] ∧ vs ≠ [])

theorem eqFs_run {D : Nat} {g : TypeId → List (AV DC) → List (AV DC) → Option (AB DC)}
    (ih : ∀ t xs ys b, g t xs ys = some b → ∀ us vs, VRels ρ xs us → VRels ρ ys vs → EqOk P w D t us vs b.den) {xs ys : List (AV DC)} {us vs : List Value} (hx : VRels ρ xs us) (hy : VRels ρ ys vs) :
    ∀ (fs : List Field) (b : AB DC), eqFs P g xs ys fs = some b → (Op.eqFields D us.toArray vs.toArray fs).run P w = .ok b.den w
  | [], b, h => by
    simp only [eqFs, Option.some.injEq] at h
    subst h
    rfl
  | f :: fs, b, h => by
    unfold eqFs at h
    split at h
    · cases h
    · rename_i hf
      have hf' : f.name ≠ "_" := by simpa using hf
      cases hs : sizeT P f.type with
      | none => rw [hs] at h; cases h
      | some n =>
        rw [hs] at h
        simp only [] at h
        cases h1 : g f.type (cutA xs f.offset n) (cutA ys f.offset n) with
        | none => rw [h1] at h; cases h
        | some a =>
          cases h2 : eqFs P g xs ys fs with
          | none => rw [h1, h2] at h; cases h
          | some c =>
            rw [h1, h2] at h
            simp only [Option.some.injEq] at h
            subst h
            obtain ⟨q, hq, hrun, hne⟩ := ih _ _ _ _ h1 _ _ ((hx.drop f.offset).take n) ((hy.drop f.offset).take n)
            have hrest := eqFs_run ih hx hy fs c h2
            simp only [Op.eqFields, hf', ne_eq, not_false_eq_true, if_true, Sem.run_bind]
            rw [run_part hq hs us f.offset (fun e => (hne e).1) w]
            simp only [Result.andThen_ok]
            rw [run_part hq hs vs f.offset (fun e => (hne e).2) w]
            simp only [Result.andThen_ok, hrun]
            rw [andB_den]
            cases a.den
            · simp
            · simp only [Bool.not_true, Bool.false_eq_true, if_false, Bool.true_and]
              exact hrest

theorem eqAr_run {D : Nat} {g : TypeId → List (AV DC) → List (AV DC) → Option (AB DC)} {e : TypeId} {n : Nat} (hs : sizeT P e = some n)
    (ih : ∀ t xs ys b, g t xs ys = some b → ∀ us vs, VRels ρ xs us → VRels ρ ys vs → EqOk P w D t us vs b.den) {xs ys : List (AV DC)} {us vs : List Value} (hx : VRels ρ xs us) (hy : VRels ρ ys vs) :
    ∀ (m i : Nat) (b : AB DC), eqAr g e n xs ys m i = some b →
      ((forIn (List.range' i m) ((none, ()) : Option Bool × Unit) fun j r => do
          let x ← part e us.toArray (j * n)
          let y ← part e vs.toArray (j * n)
          let q ← Op.equalIn D e x y
          if (!q) = true then pure (ForInStep.done (some false, ())) else pure (ForInStep.yield (none, ()))).run P w) = .ok (bif b.den then none else some false, ()) w
  | 0, i, b, h => by
    simp only [eqAr, Option.some.injEq] at h
    subst h
    rfl
  | m + 1, i, b, h => by
    unfold eqAr at h
    cases h1 : g e (cutA xs (i * n) n) (cutA ys (i * n) n) with
    | none => rw [h1] at h; cases h
    | some a =>
      cases h2 : eqAr g e n xs ys m (i + 1) with
      | none => rw [h1, h2] at h; cases h
      | some c =>
        rw [h1, h2] at h
        simp only [Option.some.injEq] at h
        subst h
        obtain ⟨q, hq, hrun, hne⟩ := ih _ _ _ _ h1 _ _ ((hx.drop (i * n)).take n) ((hy.drop (i * n)).take n)
        have hrest := eqAr_run hs ih hx hy m (i + 1) c h2
        simp only [List.range'_succ, List.forIn_cons, Sem.run_bind]
        rw [run_part hq hs us (i * n) (fun e => (hne e).1) w]
        simp only [Result.andThen_ok]
        rw [run_part hq hs vs (i * n) (fun e => (hne e).2) w]
        simp only [Result.andThen_ok, hrun]
        rw [andB_den]
        cases a.den
        · simp
        · simp only [Bool.not_true, Bool.false_eq_true, if_false, Bool.true_and, Sem.run_bind, Sem.run_pure, Result.andThen_ok]
          exact hrest

theorem eqA_run : ∀ (d D : Nat), d ≤ D → ∀ (t : TypeId) (xs ys : List (AV DC)) (b : AB DC), eqA P d t xs ys = some b → ∀ us vs, VRels ρ xs us → VRels ρ ys vs → EqOk P w D t us vs b.den
  | 0, _, _, _, _, _, _, h, _, _, _, _ => by cases h
  | d + 1, 0, hD, _, _, _, _, _, _, _, _, _ => by omega
  | d + 1, D + 1, hD, t, xs, ys, b, h, us, vs, hx, hy => by
    unfold eqA at h
    cases hu : P.underlying t with
    | none => rw [hu] at h; cases h
    | some T =>
      rw [hu] at h
      have ih := eqA_run d D (by omega)
      cases T <;> simp only [] at h <;> first | (cases h; done) | skip
      · -- bool
        have hg : isAggT P t = some false := by unfold isAggT; rw [hu]
        match xs, ys, h with
        | [.bool a], [.bool c], h =>
          obtain ⟨v, _, rfl, hv, hn⟩ := hx
          obtain ⟨v', _, rfl, hv', hn'⟩ := hy
          cases hv; cases hv'; cases hn; cases hn'
          refine ⟨false, hg, ?_, fun _ => ⟨by simp, by simp⟩⟩
          rw [eq1_bool h]
          exact run_equalIn_bool' w D t _ _ hu
      · -- int
        rename_i k0
        have hg : isAggT P t = some false := by unfold isAggT; rw [hu]
        match xs, ys, h with
        | [.int k a], [.int k' c], h =>
          obtain ⟨v, _, rfl, hv, hn⟩ := hx
          obtain ⟨v', _, rfl, hv', hn'⟩ := hy
          cases hv; cases hv'; cases hn; cases hn'
          obtain ⟨rfl, he⟩ := eq1_int h
          refine ⟨false, hg, ?_, fun _ => ⟨by simp, by simp⟩⟩
          rw [he]
          exact run_equalIn_int w D t _ _ _ _ hu
      · -- array
        rename_i len e
        have hg : isAggT P t = some true := by unfold isAggT; rw [hu]
        cases hs : sizeT P e with
        | none => rw [hs] at h; cases h
        | some n =>
          rw [hs] at h
          simp only [] at h
          refine ⟨true, hg, ?_, fun e => by cases e⟩
          have hr := eqAr_run (P := P) (w := w) hs ih hx hy len 0 b h
          simp only [valOf, cond_true, Op.equalIn, Sem.run_bind, run_underlying hu, Result.andThen_ok, run_sizeT hs, Std.Legacy.Range.forIn_eq_forIn_range', Std.Legacy.Range.size, Nat.sub_zero, Nat.add_sub_cancel, Nat.div_one]
          rw [hr]
          cases b.den <;> rfl
      · -- struct
        rename_i fs
        have hg : isAggT P t = some true := by unfold isAggT; rw [hu]
        split at h
        · cases h
        · rename_i hst
          have hst' : P.stoodInHeld t = false := by simpa using hst
          have hfs : P.fieldsOf t = fs := by unfold Program.fieldsOf; rw [hu]
          refine ⟨true, hg, ?_, fun e => by cases e⟩
          have := eqFs_run (P := P) (w := w) ih hx hy fs.toList b h
          simp only [valOf, cond_true]
          rw [run_equalIn_struct w D t _ _ (by rw [hfs]; exact hu) hst', hfs]
          exact this
end
end Go.Proofs.Ytngcbpcfgolifaa.Ev
