/- The evaluator is sound: what a call's tree picks, 'Calls' holds of. -/
import Derived.Test.YtngcbpcfgolifaaEvAll
namespace Go.Proofs.Ytngcbpcfgolifaa.Ev
open Go.RowKit
set_option linter.unusedVariables false
set_option linter.unusedSimpArgs false
section
variable {P : Program} {X : Cx DC} {w0 : World} {own : List Nat}

def resG (tmps : Array Value) : ResultVar → Sem Value
  | .tmp t => pure (tmps.getD t Go.undef)
  | .cell x t => do loadVar t (← asAddr (tmps.getD x Go.undef))
theorem results_eq (fn : Func) (tmps : Array Value) : results fn tmps = (do let vs ← fn.results.mapM (resG tmps); pure (if h : vs.size = 1 then vs[0] else .tuple vs)) := by
  unfold results
  congr 2

theorem results_rel {ρ : List Rb} {s : St DC} {a : Act} {w : World} (H : SR w0 own ρ s a w) (g : ResultVar → Sem Value) (hg1 : ∀ t, g (.tmp t) = pure (a.tmps.getD t Go.undef)) (hg2 : ∀ x t, g (.cell x t) = do loadVar t (← asAddr (a.tmps.getD x Go.undef))) : ∀ (rs : List ResultVar) (vs : List (AV DC)), resultsA P rs s = some vs →
    ∃ us : List Value, (rs.mapM g).run P w = .ok us w ∧ VRels ρ vs us
  | [], vs, h => by
    simp only [resultsA, Option.some.injEq] at h
    subst h
    exact ⟨[], rfl, rfl⟩
  | .tmp t :: rs, vs, h => by
    simp only [resultsA] at h
    cases hr : resultsA P rs s with
    | none => rw [hr] at h; cases h
    | some r =>
      rw [hr] at h
      simp only [Option.some.injEq] at h
      subst h
      obtain ⟨us, h1, h2⟩ := results_rel H g hg1 hg2 rs r hr
      refine ⟨_ :: us, ?_, .cons (H.1.getD t) h2⟩
      rw [List.mapM_cons, hg1]
      simp only [Sem.run_bind, Sem.run_pure, Result.andThen_ok]
      rw [h1]
      rfl
  | .cell x t :: rs, vs, h => by
    simp only [resultsA] at h
    have hx := H.1.getD x
    generalize s.slots.getD x .dead = V at h hx
    cases V <;> simp only [] at h <;> first | (cases h; done) | skip
    rename_i b off
    obtain ⟨r0, hr0, hx⟩ := hx
    cases hl : loadA P s.heap t b off with
    | none => rw [hl] at h; cases h
    | some v =>
      cases hr : resultsA P rs s with
      | none => rw [hl, hr] at h; cases h
      | some r =>
        rw [hl, hr] at h
        simp only [Option.some.injEq] at h
        subst h
        obtain ⟨us, h1, h2⟩ := results_rel H g hg1 hg2 rs r hr
        obtain ⟨u, h3, h4⟩ := run_loadVar_rel (P := P) H.2 hl hr0
        have hx' : a.tmps.getD x Go.undef = .pointer (some (r0.ad off.den)) := hx
        refine ⟨u :: us, ?_, .cons h4 h2⟩
        rw [List.mapM_cons, hg2]
        have ha : (asAddr (a.tmps.getD x Go.undef)).run P w = .ok (r0.ad off.den) w := by rw [hx']; rfl
        simp only [Sem.run_bind, ha, Sem.run_pure, Result.andThen_ok, h3]
        rw [h1]
        rfl

theorem tuple_rel {ρ : List Rb} {vs : List (AV DC)} {us : List Value} (h : VRels ρ vs us) : VRel ρ (tupleA vs) (if h : us.toArray.size = 1 then us.toArray[0] else .tuple us.toArray) := by
  match vs, us, h with
  | [], us, h => rw [show us = [] from h]; exact ⟨#[], rfl, rfl⟩
  | [v], _, ⟨u, l, e, h1, h2⟩ =>
    have : l = [] := h2
    subst this
    subst e
    exact h1
  | v :: v' :: vs, _, ⟨u, l, e, h1, u', l', e', h2, h3⟩ =>
    subst e' e
    rw [dif_neg (by simp)]
    exact ⟨_, rfl, .cons h1 (.cons h2 h3)⟩

theorem val_of {ρ : List Rb} {x : Ex DC} {u : Value} (h : ExR ρ x (.val u)) : ∃ v, x = .val v ∧ VRel ρ v u := by
  cases x with
  | val v => exact ⟨v, rfl, h⟩
  | normal => exact h.elim
  | exit i => exact h.elim
  | ret => exact h.elim

theorem call_succ (hX : Ok P X) {n : Nat} (hc : CodeOk P X w0 own n) : CallOk P X w0 own (n + 1) := by
  intro f args h r hr ρ w vals H hv
  simp only [call] at hr
  cases hs : X.sums f args h with
  | some t =>
    rw [hs] at hr
    obtain ⟨v, h1, h2⟩ := T.bind_some hr
    have := T.ret_some h2
    subst this
    exact hX.sums f args h t v hs h1 w0 own ρ w vals H hv
  | none =>
    rw [hs] at hr
    simp only [] at hr
    cases hf : P.funcs[f]? with
    | none => rw [hf] at hr; cases hr
    | some fn =>
      rw [hf] at hr
      simp only [] at hr
      cases hb : fn.body with
      | none => rw [hb] at hr; cases hr
      | some c =>
        rw [hb] at hr
        simp only [] at hr
        obtain ⟨z, hz, hz2⟩ := joinT_sound (w0 := w0) (own := own) _ _ hr
        obtain ⟨r1, h1, h2⟩ := T.bind_some hz
        have hlen : args.length = vals.length := hv.length.symm
        have hS0 : RS ρ (args ++ undefs (fn.ntmps - args.length)) { tmps := vals.toArray ++ Array.replicate (fn.ntmps - vals.toArray.size) Go.undef, defers := [] } := by
          have hrel := hv.append (VRels.undefs (ρ := ρ) (fn.ntmps - args.length))
          refine ⟨?_, ?_, rfl⟩
          · have := hrel.length
            simp at this ⊢
            omega
          · intro t v ht
            obtain ⟨u, hu, hvu⟩ := hrel.get ht
            have : (vals.toArray ++ Array.replicate (fn.ntmps - vals.toArray.size) Go.undef).getD t Go.undef = u := by
              rw [Array.getD_eq_getD_getElem?]
              have e : (vals.toArray ++ Array.replicate (fn.ntmps - vals.toArray.size) Go.undef)[t]? = (vals ++ List.replicate (fn.ntmps - args.length) Go.undef)[t]? := by
                rw [← Array.getElem?_toList]
                simp [hlen]
              rw [e, hu]
              rfl
            rw [this]
            exact hvu
        refine calls_of_wp hf hb (Code.wp_mono (fun e a' w' hg => ?_) (hc _ _ _ _ ⟨fn, c, hf, hb, .refl _⟩ h1 ρ _ w ⟨hS0, H⟩))
        obtain ⟨ρ', g1, g2, g3⟩ := hg
        have hact : SR w0 own ρ { slots := [], heap := h } { tmps := #[], defers := [] } w := ⟨⟨by simp, fun t v ht => by simp at ht, rfl⟩, H⟩
        have fin : (finish P fn.results.toList { slots := args ++ undefs (fn.ntmps - args.length), heap := h } r1.2).pick = some z → a'.defers = [] ∧ ∃ v, (results fn a'.tmps).run P w' = .ok v w' ∧ CallPost w0 own ρ h r (.returned v) w' := by
          intro hm
          unfold finish at hm
          cases hres : resultsA P fn.results.toList (({ slots := args ++ undefs (fn.ntmps - args.length), heap := h } : St DC).apps r1.2) with
          | none => rw [hres] at hm; cases hm
          | some vs =>
            rw [hres] at hm
            have := T.ret_some hm
            subst this
            obtain ⟨us, k1, k2⟩ := results_rel (P := P) g3 (resG a'.tmps) (fun t => rfl) (fun x t => rfl) _ _ hres
            refine ⟨g3.1.defers, (if h : us.toArray.size = 1 then us.toArray[0] else .tuple us.toArray), ?_, ?_⟩
            · rw [results_eq, Sem.run_bind, Array.mapM_eq_mapM_toList, Sem.run_map, k1]
              rfl
            · have hgood : Good w0 own ρ { slots := [], heap := h } (.val (tupleA vs), heapW r1.2) (.val (if h : us.toArray.size = 1 then us.toArray[0] else .tuple us.toArray)) { tmps := #[], defers := [] } w' := by
                refine ⟨ρ', g1, tuple_rel k2, ⟨?_, ?_⟩⟩
                · have hno : (({ slots := [], heap := h } : St DC).apps (heapW r1.2)).slots = [] := heapW_none r1.2 _
                  refine ⟨?_, fun t v ht => ?_, rfl⟩
                  · change (({ slots := [], heap := h } : St DC).apps (heapW r1.2)).slots.length ≤ _
                    rw [hno]; simp
                  · change (({ slots := [], heap := h } : St DC).apps (heapW r1.2)).slots[t]? = some v at ht
                    rw [hno] at ht; simp at ht
                · change WR w0 own ρ' (({ slots := [], heap := h } : St DC).apps (heapW r1.2)).heap w'
                  rw [heapW_heap r1.2 { slots := [], heap := h } { slots := args ++ undefs (fn.ntmps - args.length), heap := h } rfl]
                  exact g3.2
              obtain ⟨ρ2, m1, m2, m3⟩ := hz2 hact hgood
              obtain ⟨v, e1, e2⟩ := val_of m2
              exact ⟨_, v, ρ2, e1, rfl, m1, e2, m3.2⟩
        rcases exitR g2 with ⟨e1, rfl⟩ | ⟨i, e1, rfl⟩ | ⟨e1, rfl⟩
        · rw [e1] at h2
          exact fin h2
        · rw [e1] at h2
          cases h2
        · rw [e1] at h2
          exact fin h2

theorem sound (hX : Ok P X) : ∀ n, CodeOk P X w0 own n ∧ OpsOk P X w0 own n ∧ QuietOk P X w0 own n ∧ CallOk P X w0 own n ∧ LoopOk P X w0 own n ∧ ChainOk P X w0 own n
  | 0 => ⟨code_zero, ops_zero, quiet_zero, call_zero, loop_zero, chain_zero⟩
  | n + 1 => by
    obtain ⟨h1, h2, h3, h4, h5, h6⟩ := sound hX n
    have h5' := loop_succ h1 h5
    exact ⟨code_succ hX h1 h2 h3 h6 h5', ops_succ hX h2 h4, quiet_succ hX h3 h4, call_succ hX h1, h5', chain_succ hX h6 h4⟩

/-- A CALL: what the tree picks, in whatever world. -/
theorem call_sound (hX : Ok P X) {n : Nat} {f : FuncId} {args : List (AV DC)} {h : List (AO DC)} {r : Ex DC × List (W DC)} (hr : (call P X n f args h).pick = some r) {ρ : List Rb} {w : World} {vals : List Value} (H : WR w0 own ρ h w) (hv : VRels ρ args vals) :
    Calls P f vals.toArray w (CallPost w0 own ρ h r) := (sound hX n).2.2.2.1 f args h r hr ρ w vals H hv

theorem WR.start (w : World) (hp : Pin w [] := by first | assumption | exact fun _ _ h => absurd h (by simp [pins])) : WR w [] [] [] w :=
  ⟨rfl, fun _ _ _ _ _ _ h => by simp at h, fun _ _ _ h => by simp at h, fun _ _ _ h => by simp at h, fun _ _ _ h => by simp at h, fun _ _ _ => rfl, Nat.le_refl _, rfl, rfl, rfl, hp⟩
theorem WR.below {ρ : List Rb} {h : List (AO DC)} {w w' : World} (H : WR w [] ρ h w') : Below w.heap.size w w' :=
  ⟨H.os, H.tape, H.output, H.size, fun b hb => H.frame b hb (by simp)⟩

/-- A law over plain values: whatever memory there is, it answers so, and leaves what was there. -/
theorem law_sound (hX : Ok P X) {n : Nat} {f : FuncId} {args : List (AV DC)} {v : AV DC} {l : List (W DC)} {vals : Array Value} (hr : (call P X n f args []).pick = some (.val v, l)) (hv : VRels [] args vals.toList) (w : World) (hp : Pin w [] := by first | assumption | exact fun _ _ h => absurd h (by simp [pins])) :
    Calls P f vals w fun e w' => ∃ u ρ, e = .returned u ∧ VRel ρ v u ∧ Below w.heap.size w w' := by
  have := call_sound (w0 := w) (own := []) hX hr (WR.start w) hv
  simp only [Array.toArray_toList] at this
  refine this.mono fun e w' hp => ?_
  obtain ⟨u, v', ρ, e1, e2, _, e3, e4⟩ := hp
  cases e1
  exact ⟨u, ρ, e2, e3, e4.below⟩
end
end Go.Proofs.Ytngcbpcfgolifaa.Ev
