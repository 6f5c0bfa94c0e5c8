/- Calls, and what is taken for granted of a context. -/
import Derived.Test.YtngcbpcfgolifaaEvMainA
namespace Go.Proofs.Ytngcbpcfgolifaa.Ev
open Go.RowKit
set_option linter.unusedVariables false
set_option linter.unusedSimpArgs false
section
variable {P : Program} {w0 : World} {own : List Nat}

/-! ### Parts of code -/
inductive Sub : Code → Code → Prop where
  | refl (c : Code) : Sub c c
  | seqL {c a b : Code} : Sub c a → Sub c (.seq a b)
  | seqR {c a b : Code} : Sub c b → Sub c (.seq a b)
  | condL {c a b : Code} {x : Operand} : Sub c a → Sub c (.cond x a b)
  | condR {c a b : Code} {x : Operand} : Sub c b → Sub c (.cond x a b)
  | block {c a : Code} {id : Nat} : Sub c a → Sub c (.block id a)
  | loop {c a : Code} : Sub c a → Sub c (.loop a)
  | scope {c a : Code} : Sub c a → Sub c (.scope a)

theorem Sub.trans {a b c : Code} (h : Sub a b) (k : Sub b c) : Sub a c := by
  induction k with
  | refl => exact h
  | seqL _ ih => exact .seqL ih
  | seqR _ ih => exact .seqR ih
  | condL _ ih => exact .condL ih
  | condR _ ih => exact .condR ih
  | block _ ih => exact .block ih
  | loop _ ih => exact .loop ih
  | scope _ ih => exact .scope ih

/-- It stands in a function's body. -/
def Within (P : Program) (f : FuncId) (c : Code) : Prop := ∃ fn b, P.funcs[f]? = some fn ∧ fn.body = some b ∧ Sub c b
theorem Within.sub {f : FuncId} {a b : Code} (h : Within P f b) (k : Sub a b) : Within P f a := let ⟨fn, c, h1, h2, h3⟩ := h; ⟨fn, c, h1, h2, k.trans h3⟩

/-! ### What code and calls come to -/
def CodePost (w0 : World) (own : List Nat) (ρ : List Rb) (s : St DC) (r : Ex DC × List (W DC)) : Exit → Act → World → Prop := fun e a w => Good w0 own ρ s r (.exit e) a w
def CallPost (w0 : World) (own : List Nat) (ρ : List Rb) (h : List (AO DC)) (r : Ex DC × List (W DC)) : Ending → World → Prop := fun e w =>
  ∃ u v ρ', r.1 = .val v ∧ e = .returned u ∧ Ext ρ ρ' ∧ VRel ρ' v u ∧ WR w0 own ρ' (({ slots := [], heap := h } : St DC).apps r.2).heap w

/-! ### What is taken for granted of a context -/
structure Ok (P : Program) (X : Cx DC) : Prop where
  mixed : P.follows .mixedOrders = true
  names : ∀ (f : Nat) (fn : Func), P.funcs[f]? = some fn → (fn.name == "runtime.NumGoroutine") = false
  load : ∀ f : FuncId, X.ext f = some .load64 → ∀ (b : Addr) (n : Int) (w : World), w.cell? b = some (.int .u64 n) → (callFunc f #[.pointer (some b)]).run P w = .ok (.value (.int .u64 n)) w
  store : (∀ f : FuncId, X.ext f = some .store64 → ∀ (b : Addr) (n : Int) (v : Value) (w : World), w.cell? b = some v → w.frozen? b = false → (callFunc f #[.pointer (some b), .int .u64 n]).run P w = .ok (.value Go.undef) (w.setCell b (.int .u64 n))) ∧ (∀ f : FuncId, X.ext f = some .add64 → ∀ (b : Addr) (n d : Int) (w : World), w.cell? b = some (.int .u64 n) → w.frozen? b = false → (callFunc f #[.pointer (some b), .int .u64 d]).run P w = .ok (.value (.int .u64 (litBin .add .u64 n d))) (w.setCell b (.int .u64 (litBin .add .u64 n d))))
  bodies : ∀ (f : FuncId) args h t, X.sums f args h = some t → ∃ fn, P.funcs[f]? = some fn ∧ fn.body.isNone = false
  sums : ∀ f args h t r, X.sums f args h = some t → t.pick = some r → ∀ (w0 : World) (own : List Nat) (ρ : List Rb) (w : World) (vals : List Value), WR w0 own ρ h w → VRels ρ args vals →
    Calls P f vals.toArray w (CallPost w0 own ρ h (.val r.1, r.2))
  blk : ∀ f id g, X.blk f id = some g → ∀ c s r, Within P f (.block id c) → (g s).pick = some r → ∀ (w0 : World) (own : List Nat) (ρ : List Rb) (a : Act) (w : World), SR w0 own ρ s a w → (Code.block id c).wp P (CodePost w0 own ρ s r) a w
  opx : ∀ o s t z, X.opx o s = some t → t.pick = some z → ∀ (w0 : World) (own : List Nat) (ρ : List Rb) (a : Act) (w : World), RS ρ s.slots a → WR w0 own ρ s.heap w → Does P w0 own ρ s a w o z

theorem run_callFunc {X : Cx DC} (hX : Ok P X) {f : FuncId} {fn : Func} (hf : P.funcs[f]? = some fn) (hb : fn.body.isNone = false) (args : Array Value) (w : World) : (callFunc f args).run P w = .ok (.enter f args) w := by
  have h1 : fn.name ≠ "runtime.NumGoroutine" := by simpa using hX.names f fn hf
  have h2 : fn.body ≠ none := fun e => by rw [e] at hb; cases hb
  simp [callFunc, hf, h1, h2]

/-- A call of a function value. -/
theorem run_call {o : Oper} {c : Call} {fo : Operand} {a : Act} {g : FuncId} {first captured : Array Value} (ho : o.op = .call c) (hc : c.callee = .value fo) (hv : a.eval fo = .func (.func g) first captured) :
    execOp a.eval o = callFunc g ((first ++ c.args.map a.eval) ++ captured) := by
  simp only [execOp, ho, resolve, hc, hv, Deferred.ofValue, pure_bind, invoke]

theorem callee_spec {ρ : List Rb} {s : St DC} {a : Act} (hS : RS ρ s.slots a) {o : Oper} {f : FuncId} {args : List (AV DC)} (h : callee? o s = some (f, args)) :
    ∃ vals : Array Value, execOp a.eval o = callFunc f vals ∧ VRels ρ args vals.toList := by
  unfold callee? at h
  split at h
  · rename_i c ho
    split at h
    · rename_i fo hc
      split at h
      · rename_i g first captured he
        cases h
        have hv := evalA_rel hS fo
        rw [he] at hv
        obtain ⟨f', c', hv, h1, h2⟩ := hv
        refine ⟨_, run_call ho hc hv, ?_⟩
        simp only [Array.toList_append, Array.toList_map]
        exact (h1.append (evalA_map hS c.args.toList)).append h2
      · cases h
    · cases h
  · cases h

theorem addA_den (x y : AI DC) : (addA x y).den = litBin .add .u64 x.den y.den := by
  cases x <;> cases y <;> rfl
theorem extA_sound {X : Cx DC} (hX : Ok P X) {ρ : List Rb} {s : St DC} {a : Act} {w : World} {o : Oper} {f : FuncId} {args : List (AV DC)} {vals : Array Value} {k : ExtK} (H : WR w0 own ρ s.heap w) (hk : X.ext f = some k)
    (he : execOp a.eval o = callFunc f vals) (hv : VRels ρ args vals.toList) {z : AV DC × List (W DC)} (h : (extA k s.heap args).pick = some z) : Does P w0 own ρ s a w o z := by
  unfold extA at h
  split at h
  · rename_i b off
    obtain ⟨v, vs, e, hv, hvs⟩ := hv
    have : vs = [] := hvs
    subst this
    have evals : vals = #[v] := Array.ext' (by simpa using e)
    obtain ⟨r, hr, rfl⟩ := hv
    split at h
    · rename_i n hl
      have := T.ret_some h
      subst this
      obtain ⟨u, h1, h2⟩ := load1_run H hl hr
      cases h2
      exact Does.same H (by rw [he, evals]; exact hX.load f hk _ _ w h1) rfl
    · cases h
  · rename_i b n x
    obtain ⟨v, vs, e, hv, hvs⟩ := hv
    obtain ⟨v2, vs2, e2, hv2, hvs2⟩ := hvs
    have : vs2 = [] := hvs2
    subst this
    subst e2
    have evals : vals = #[v, v2] := Array.ext' (by simpa using e)
    obtain ⟨r, hr, rfl⟩ := hv
    cases hv2
    split at h
    · rename_i t cs hb
      split at h
      · rename_i hlt
        have := T.ret_some h
        subst this
        have hlt' : n < cs.length := by simpa [Nat.blt_eq] using hlt
        obtain ⟨us, hus, hsz, hrel⟩ := H.obj _ _ _ hb hr
        obtain ⟨u, h1, _⟩ := cell_of_rel H hb hr (List.getElem?_eq_getElem hlt')
        have hfz : w.frozen? (r.ad n) = false := by rw [Rb.ad_own hsz]; exact frozen_of_row w r.1 n us t hus
        refine ⟨Go.undef, _, ρ, .inl (by rw [he, evals]; exact hX.store.1 f hk _ _ _ w h1 hfz), Ext.refl _, rfl, ?_, rfl, fun e => by cases e⟩
        exact H.setCell (i := n) hb hr (v := .int .u64 x) rfl
      · cases h
    · cases h
  · rename_i b n y
    obtain ⟨v, vs, e, hv, hvs⟩ := hv
    obtain ⟨v2, vs2, e2, hv2, hvs2⟩ := hvs
    have : vs2 = [] := hvs2
    subst this
    subst e2
    have evals : vals = #[v, v2] := Array.ext' (by simpa using e)
    obtain ⟨r, hr, rfl⟩ := hv
    cases hv2
    split at h
    · rename_i t cs hb
      split at h
      · rename_i x hcx
        have := T.ret_some h
        subst this
        obtain ⟨us, hus, hsz, hrel⟩ := H.obj _ _ _ hb hr
        obtain ⟨u, h1, h2⟩ := cell_of_rel H hb hr hcx
        cases h2
        have hfz : w.frozen? (r.ad n) = false := by rw [Rb.ad_own hsz]; exact frozen_of_row w r.1 n us t hus
        have hd : (addA x y).den = litBin .add .u64 x.den y.den := addA_den x y
        refine ⟨.int .u64 (litBin .add .u64 x.den y.den), _, ρ, .inl (by rw [he, evals]; exact hX.store.2 f hk _ _ _ w h1 hfz), Ext.refl _, by rw [← hd]; rfl, ?_, rfl, fun e => by cases e⟩
        exact H.setCell (i := n) hb hr (v := .int .u64 (addA x y)) (by rw [← hd]; rfl)
      · cases h
    · cases h
  · cases h

theorem slots_put (l : List (W DC)) (s : St DC) (dst : Option Nat) (v : AV DC) (hs : (s.apps l).slots = s.slots) : s.apps (l ++ putW dst v) = { slots := (match dst with | some d => s.slots.set d v | none => s.slots), heap := (s.apps l).heap } := by
  rw [apps_append]
  cases dst with
  | none => simp only [putW, St.apps]; rw [← hs]
  | some d => simp [putW, St.apps, St.app, hs]

theorem SR.put {ρ ρ' : List Rb} {s : St DC} {a : Act} {w w' : World} {l : List (W DC)} {dst : Option Nat} {v : AV DC} {u : Value} (hS : RS ρ s.slots a) (hx : Ext ρ ρ') (hv : VRel ρ' v u) (hH : WR w0 own ρ' (s.apps l).heap w') (hs : (s.apps l).slots = s.slots) :
    SR w0 own ρ' (s.apps (l ++ putW dst v)) (a.put dst u) w' := by
  rw [slots_put l s dst v hs]
  refine ⟨?_, hH⟩
  cases dst with
  | none => exact hS.mono hx
  | some d => exact (hS.mono hx).put hv

theorem tmps_get {ρ : List Rb} {s : List (AV DC)} {a : Act} (hS : RS ρ s a) {d : Nat} {v : AV DC} (h : s.getD d .dead = v) (hv : v ≠ .dead) : ∃ u, a.tmps[d]? = some u ∧ VRel ρ v u ∧ d < s.length := by
  rcases getD_some (l := s) (i := d) (d := AV.dead) with e | e
  · exact absurd (h.symm.trans e) hv
  · rw [h] at e
    have hl : d < s.length := (List.getElem?_eq_some_iff.1 e).1
    have hr := hS.rel d v e
    have hta : d < a.tmps.size := Nat.lt_of_lt_of_le hl hS.size
    refine ⟨a.tmps[d], Array.getElem?_eq_getElem hta, ?_, hl⟩
    have : a.tmps.getD d Go.undef = a.tmps[d] := by simp [Array.getD, hta]
    rwa [this] at hr

theorem yielded_lit {ρ : List Rb} {s : List (AV DC)} {a : Act} (hS : RS ρ s a) {all : Array Oper} {j d : Nat} (hd : slotOf all j = some d) {b : AB DC} (h : s.getD d .dead = .bool b) : yielded all a.tmps j = some b.den := by
  obtain ⟨u, h1, h2, _⟩ := tmps_get hS h (by intro e; cases e)
  cases h2
  unfold yielded
  have : (all[j]?).bind (·.dst) = some d := by
    unfold slotOf at hd
    cases ho : all[j]? with
    | none => rw [ho] at hd; cases hd
    | some o => rw [ho] at hd; simpa using hd
  rw [this]
  simp [h1]
theorem yielded_undef {ρ : List Rb} {s : List (AV DC)} {a : Act} (hS : RS ρ s a) {all : Array Oper} {j d : Nat} (hd : slotOf all j = some d) (h : s.getD d .dead = .undef) : yielded all a.tmps j = none := by
  obtain ⟨u, h1, h2, _⟩ := tmps_get hS h (by intro e; cases e)
  cases h2
  unfold yielded
  have : (all[j]?).bind (·.dst) = some d := by
    unfold slotOf at hd
    cases ho : all[j]? with
    | none => rw [ho] at hd; cases hd
    | some o => rw [ho] at hd; simpa using hd
  rw [this]
  simp [h1, Go.undef]

/-- A slot's bool, now known. -/
theorem SR.known {ρ : List Rb} {s : St DC} {a : Act} {w : World} (H : SR w0 own ρ s a w) {d : Nat} {x : Bool} (h : s.slots.getD d .dead = .bool (.sym x)) {b : Bool} (hb : x = b) : SR w0 own ρ (s.app (.slot d (.bool (.lit b)))) a w := by
  refine ⟨H.1.again fun hl => ?_, H.2⟩
  have := H.1.getD d
  rw [h] at this
  subst hb
  exact this
end
end Go.Proofs.Ytngcbpcfgolifaa.Ev
