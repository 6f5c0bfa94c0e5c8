/- The evaluator is sound: regions and calls, and all together. -/
import Derived.Test.YtngcbpcfgolifaaEvMain
namespace Go.Proofs.Ytngcbpcfgolifaa.Ev
open Go.RowKit
set_option linter.unusedVariables false
set_option linter.unusedSimpArgs false
section
variable {P : Program} {X : Cx DC} {w0 : World} {own : List Nat}

theorem ops_run {n : Nat} (ho : OpsOk P X w0 own n) {base : FuncId} {all : Array Oper} {o : Oper} {todo : List Oper} {s : St DC} {ρ ρ' : List Rb} {a : Act} {w' : World} {v : AV DC} {l : List (W DC)} {u : Value} {r : Ex DC × List (W DC)}
    (h : (behind (l ++ putW o.dst v) (ev P X base n (.ops all todo) (s.apps (l ++ putW o.dst v)))).pick = some r) (hS : RS ρ s.slots a) (hx : Ext ρ ρ') (hv : VRel ρ' v u) (hH : WR w0 own ρ' (s.apps l).heap w') (hs : (s.apps l).slots = s.slots) :
    wpList P all (CodePost w0 own ρ s r) todo (a.put o.dst u) w' := by
  obtain ⟨q, h1, h2⟩ := T.bind_some h
  have := T.ret_some h2
  subst this
  have := ho _ _ _ _ _ h1 ρ' (a.put o.dst u) w' (SR.put (w := w') hS hx hv hH hs)
  exact wpList_mono (fun e a w hg => Good.before hx hg) todo _ _ this

theorem heapW_none : ∀ (l : List (W DC)) (s : St DC), (s.apps (heapW l)).slots = s.slots
  | [], _ => rfl
  | .slot _ _ :: l, s => heapW_none l s
  | .cell _ _ _ :: l, s => heapW_none l (s.app (.cell _ _ _))
  | .new _ :: l, s => heapW_none l (s.app (.new _))
  | .obj _ _ :: l, s => heapW_none l (s.app (.obj _ _))
theorem heapW_heap : ∀ (l : List (W DC)) (s s' : St DC), s.heap = s'.heap → (s.apps (heapW l)).heap = (s'.apps l).heap
  | [], _, _, h => h
  | .slot d v :: l, s, s', h => heapW_heap l s (s'.app (.slot d v)) h
  | .cell b i v :: l, s, s', h => heapW_heap l _ _ (by simp [St.app, h])
  | .new o :: l, s, s', h => heapW_heap l _ _ (by simp [St.app, h])
  | .obj b o :: l, s, s', h => heapW_heap l _ _ (by simp [St.app, h])


theorem wanted_none {all : Array Oper} {o : Oper} {a : Act} (h : o.guard = none) : Region.wanted o (yielded all a.tmps) = true := by simp [Region.wanted, h]
theorem wanted_some {all : Array Oper} {o : Oper} {a : Act} {j : Nat} {want : Bool} (h : o.guard = some (j, want)) : Region.wanted o (yielded all a.tmps) = (yielded all a.tmps j == some want) := by simp [Region.wanted, h]

theorem call_body (hX : Ok P X) {n : Nat} {f : FuncId} {args : List (AV DC)} {h : List (AO DC)} {r : Ex DC × List (W DC)} (hc : (call P X n f args h).pick = some r) : ∃ fn, P.funcs[f]? = some fn ∧ fn.body.isNone = false := by
  cases n with
  | zero => simp [call, T.pick] at hc
  | succ n =>
    simp only [call] at hc
    cases hs : X.sums f args h with
    | some t => exact hX.bodies f args h t hs
    | none =>
      rw [hs] at hc
      simp only [] at hc
      cases hf : P.funcs[f]? with
      | none => rw [hf] at hc; cases hc
      | some fn =>
        rw [hf] at hc
        simp only [] at hc
        cases hb : fn.body with
        | none => rw [hb] at hc; cases hc
        | some c => exact ⟨fn, rfl, by simp [hb]⟩

theorem ops_succ (hX : Ok P X) {n : Nat} (ho : OpsOk P X w0 own n) (hc : CallOk P X w0 own n) : OpsOk P X w0 own (n + 1) := by
  intro base all todo s r h ρ a w H
  cases todo with
  | nil =>
    simp only [ev] at h
    have := T.ret_some h
    subst this
    exact ⟨ρ, Ext.refl _, trivial, H⟩
  | cons o todo =>
    have run : (runOp P X o s (fun l => l) (fun f args => call P X n f args s.heap) fun r => behind (r.2 ++ putW o.dst r.1) (ev P X base n (.ops all todo) (s.apps (r.2 ++ putW o.dst r.1)))).pick = some r → o.wp P a w (wpList P all (CodePost w0 own ρ s r) todo) (CodePost w0 own ρ s r) := by
      intro h
      unfold runOp at h
      cases hcal : callee? o s with
      | none =>
        rw [hcal] at h
        simp only [] at h
        cases hox : X.opx o s with
        | some t =>
          rw [hox] at h
          obtain ⟨z, h1, h2⟩ := T.bind_some h
          obtain ⟨v, w', ρ', g1, g2, g3, g4, g5, _⟩ := hX.opx o s t z hox h1 w0 own ρ a w H.1 H.2
          exact g1.wp (ops_run ho h2 H.1 g2 g3 g4 g5)
        | none =>
          rw [hox] at h
          obtain ⟨z, h1, h2⟩ := T.bind_some h
          obtain ⟨v, w', ρ', g1, g2, g3, g4, g5, _⟩ := opA_sound H.1 H.2 h1
          exact g1.wp (ops_run ho h2 H.1 g2 g3 g4 g5)
      | some fa =>
        obtain ⟨f, args⟩ := fa
        rw [hcal] at h
        obtain ⟨vals, he, hv⟩ := callee_spec H.1 hcal
        simp only [] at h
        cases hk : X.ext f with
        | some k =>
          rw [hk] at h
          obtain ⟨z, h1, h2⟩ := T.bind_some h
          obtain ⟨v, w', ρ', g1, g2, g3, g4, g5, _⟩ := extA_sound hX H.2 hk he hv h1
          exact g1.wp (ops_run ho h2 H.1 g2 g3 g4 g5)
        | none =>
          rw [hk] at h
          obtain ⟨z, h1, h2⟩ := T.bind_some h
          obtain ⟨z1, z2⟩ := z
          cases z1 <;> first | (cases h2; done) | skip
          rename_i v
          simp only [] at h2
          have hcall := hc _ _ _ _ h1 ρ w vals.toList H.2 hv
          simp only [Array.toArray_toList] at hcall
          unfold Oper.wp
          obtain ⟨fn, hf, hb⟩ := call_body hX h1
          rw [he, run_callFunc hX hf hb, Oper.upon_enter]
          refine hcall.mono fun e w' hp => ?_
          obtain ⟨u, v', ρ', e1, e2, g2, g3, g4⟩ := hp
          cases e1
          subst e2
          exact ops_run ho h2 H.1 g2 g3 (by rw [heapW_heap z2 s { slots := [], heap := s.heap } rfl]; exact g4) (heapW_none z2 s)
    have skip : (behind (putW o.dst .undef) (ev P X base n (.ops all todo) (s.apps (putW o.dst .undef)))).pick = some r → wpList P all (CodePost w0 own ρ s r) todo (a.put o.dst Go.undef) w := by
      intro h
      exact ops_run (l := []) ho h H.1 (Ext.refl _) (u := Go.undef) rfl H.2 rfl
    unfold wpList
    simp only [ev, guardT] at h
    cases hg : o.guard with
    | none =>
      rw [hg] at h
      rw [if_pos (wanted_none hg)]
      exact .inl (run h)
    | some jw =>
      obtain ⟨j, want⟩ := jw
      rw [hg] at h
      simp only [] at h
      rw [wanted_some hg]
      cases hd : slotOf all j with
      | none => rw [hd] at h; cases h
      | some d =>
        rw [hd] at h
        simp only [] at h
        cases hs : s.slots.getD d .dead <;> rw [hs] at h <;> (try simp only [] at h) <;> first | (cases h; done) | skip
        · rw [yielded_undef H.1 hd hs]
          rw [if_neg (by simp)]
          exact skip h
        · rename_i ab
          rw [yielded_lit H.1 hd hs]
          cases ab with
          | lit b =>
            simp only [] at h
            split at h
            · rename_i hb
              have hb' : b = want := by simpa using hb
              rw [if_pos (by simp [AB.den, hb'])]
              exact .inl (run h)
            · rename_i hb
              have hb' : ¬ b = want := by simpa using hb
              rw [if_neg (by simp [AB.den, hb'])]
              exact skip h
          | sym b =>
            simp only [] at h
            have fork : ∀ b', b = b' → (behind [.slot d (.bool (.lit b'))] (ev P X base n (.ops all (o :: todo)) (s.app (.slot d (.bool (.lit b')))))).pick = some r → wpList P all (CodePost w0 own ρ s r) (o :: todo) a w := by
              intro b' hb h
              obtain ⟨q, h1, h2⟩ := T.bind_some h
              have := T.ret_some h2
              subst this
              have := ho _ _ _ _ _ h1 ρ a w (H.known hs hb)
              exact wpList_mono (fun e a w hg => Good.before (l := [.slot d (.bool (.lit b'))]) (Ext.refl _) hg) _ _ _ this
            have hw : wpList P all (CodePost w0 own ρ s r) (o :: todo) a w := by
              rcases T.br_some h with ⟨h1, h2⟩ | ⟨h1, h2⟩
              · exact fork true h1 h2
              · exact fork false h1 h2
            unfold wpList at hw
            rw [wanted_some hg, yielded_lit H.1 hd hs] at hw
            exact hw

theorem onlyNew_nil {l : List (W DC)} (h : noHeap (onlyNew l) = true) : l.all isNew = true := by
  unfold onlyNew at h
  split at h
  · assumption
  · cases l with
    | nil => rfl
    | cons x l => cases h
theorem news_heap : ∀ (l : List (W DC)) (s : St DC), l.all isNew = true → ∃ t, (s.apps l).heap = s.heap ++ t
  | [], s, _ => ⟨[], by simp [St.apps]⟩
  | .new o :: l, s, h => by
    simp only [List.all_cons, isNew, Bool.true_and] at h
    obtain ⟨t, ht⟩ := news_heap l (s.app (.new o)) h
    exact ⟨o :: t, by rw [St.apps, ht]; simp [St.app]⟩
  | .slot _ _ :: l, s, h => by simp [isNew] at h
  | .cell _ _ _ :: l, s, h => by simp [isNew] at h
  | .obj _ _ :: l, s, h => by simp [isNew] at h

theorem WR.old {ρ ρ' : List Rb} {h t : List (AO DC)} {w : World} (H : WR w0 own ρ' (h ++ t) w) (hx : Ext ρ ρ') (hl : ρ.length = h.length) {w1 : World} (H1 : WR w0 own ρ h w1) : WR w0 own ρ h w := by
  have hold : ∀ {i : Nat} {o : AO DC}, h[i]? = some o → (h ++ t)[i]? = some o := fun {i o} ho => by
    rw [List.getElem?_append_left (List.getElem?_eq_some_iff.1 ho).1]; exact ho
  refine H.less hx hl (fun i o ho hol => ⟨o, hold ho, hol⟩) (fun i o ho hol => ⟨o, hold ho, hol⟩) (fun i r o ho hm hi => H.new _ _ _ (hold ho) hm (hx _ _ hi)) fun i o r ho hi => ?_
  have h1 := H.obj _ _ _ (hold ho) (hx _ _ hi)
  have h0 := H1.obj _ _ _ ho hi
  cases o with
  | gone => trivial
  | rows t' n fs => exact h1
  | arr t' n fs => exact h1
  | cells t' cs =>
    obtain ⟨vs, e, hs, hv⟩ := h1
    obtain ⟨vs0, _, _, hv0⟩ := h0
    exact ⟨vs, e, hs, hv.back hx _ _ _ hv0⟩
  | map ks xs =>
    obtain ⟨es, cl, e, h2, h3⟩ := h1
    obtain ⟨es0, cl0, _, k1, k2⟩ := h0
    exact ⟨es, cl, e, h2.back hx _ _ _ k1, h3.back hx _ _ _ k2⟩

theorem Oper.quiet_mono' {o : Oper} {a : Act} {C : World → Prop} {K K' : Act → Prop} (h : ∀ a, K a → K' a) (hh : o.quiet P a C K) : o.quiet P a C K' := Oper.quiet_mono h hh
theorem quiet_next {n : Nat} (hq : QuietOk P X w0 own n) {base : FuncId} {all : Array Oper} {o : Oper} {todo : List Oper} {s : St DC} {ρ : List Rb} {a : Act} {v : AV DC} {u : Value} {r : Ex DC × List (W DC)}
    (h : (behind (putW o.dst v) (ev P X base n (.quiet all todo) (s.apps (putW o.dst v)))).pick = some r) (hS : RS ρ s.slots a) (hl : ρ.length = s.heap.length) (hex : ∃ w, WR w0 own ρ s.heap w) (hv : VRel ρ v u) :
    wpQuiet P all (WR w0 own ρ s.heap) (fun a' => ∀ w', WR w0 own ρ s.heap w' → CodePost w0 own ρ s r .normal a' w') todo (a.put o.dst u) := by
  obtain ⟨q, h1, h2⟩ := T.bind_some h
  have := T.ret_some h2
  subst this
  have hheap : (s.apps (putW o.dst v)).heap = s.heap := by cases o.dst <;> rfl
  have hS' : RS ρ (s.apps (putW o.dst v)).slots (a.put o.dst u) := by
    cases hd : o.dst with
    | none => exact hS
    | some d => exact hS.put hv
  have := hq _ _ _ _ _ h1 ρ (a.put o.dst u) hS' (by rw [hheap]; exact hl) (by rw [hheap]; exact hex)
  rw [hheap] at this
  exact wpQuiet_mono (fun a' hg w' hw' => Good.before (Ext.refl _) (hg w' hw')) todo _ this

/-! ### What looks at no world -/
def Det (P : Program) {α : Type} (m : Sem α) : Prop := ∀ w r w1, m.run P w = .ok r w1 → ∀ w', m.run P w' = .ok r w'
theorem Det.bind {P : Program} {α β : Type} {m : Sem α} {f : α → Sem β} (hm : Det P m) (hf : ∀ x, Det P (f x)) : Det P (m >>= f) := by
  intro w r w1 h w'
  rw [Sem.run_bind] at h ⊢
  cases hr : m.run P w with
  | ok x w2 =>
    rw [hr, Result.andThen_ok] at h
    rw [hm w x w2 hr w', Result.andThen_ok]
    exact hf x w2 r w1 h w'
  | _ => rw [hr] at h; cases h
theorem Det.pure {P : Program} {α : Type} (x : α) : Det P (Pure.pure x : Sem α) := by
  intro w r w1 h w'
  simp only [Sem.run_pure, Result.ok.injEq] at h ⊢
  exact ⟨h.1, trivial⟩
theorem Det.never {P : Program} {α : Type} {m : Sem α} (h : ∀ w r w1, m.run P w ≠ .ok r w1) : Det P m := fun w r w1 hr => absurd hr (h w r w1)
theorem Det.stuck {P : Program} {α : Type} (s : String) : Det P (Go.stuck s : Sem α) := Det.never fun w r w1 h => by cases h
theorem Det.unsupported {P : Program} {α : Type} (u : Unsupported) : Det P (Go.unsupported u : Sem α) := Det.never fun w r w1 h => by cases h
theorem run_underlying_none {P : Program} {t : TypeId} (h : P.underlying t = none) (w : World) (r : TypeDesc) (w1 : World) : (underlying t).run P w ≠ .ok r w1 := by
  intro hr
  simp [underlying, h, Go.stuck] at hr
theorem Det.underlying {P : Program} (t : TypeId) : Det P (underlying t) := by
  cases h : P.underlying t with
  | none => exact Det.never (run_underlying_none h)
  | some T =>
    intro w r w1 hr w'
    rw [run_underlying h] at hr ⊢
    simp only [Result.ok.injEq] at hr ⊢
    exact ⟨hr.1, trivial⟩
theorem Det.sizeOf {P : Program} (t : TypeId) : Det P (Go.sizeOf t) := by
  cases h : P.info? t with
  | none => exact Det.never fun w r w1 hr => by simp [Go.sizeOf, typeInfo, h, Go.stuck] at hr
  | some i =>
    intro w r w1 hr w'
    simp [Go.sizeOf, typeInfo, h] at hr ⊢
    exact hr.1
theorem Det.asIntOf {P : Program} (v : Value) : Det P (asIntOf v) := by
  unfold Go.asIntOf
  split
  · exact Det.pure _
  · exact Det.unsupported _
  · exact Det.stuck _
theorem bind_never {P : Program} {α β : Type} {m : Sem β} {f : β → Sem α} {r : α} {w1 : World} (hf : ∀ s w2, (f s).run P w2 ≠ .ok r w1) (w : World) : (m >>= f).run P w ≠ .ok r w1 := by
  intro h
  rw [Sem.run_bind] at h
  cases hm : m.run P w with
  | ok s w2 =>
    rw [hm, Result.andThen_ok] at h
    exact hf _ _ h
  | _ => rw [hm] at h; cases h
theorem Det.bounds {P : Program} {α : Type} (k : IntKind) (x y : Int) (c : BoundsCode) : Det P (boundsPanic k x y c : Sem α) := Det.never fun w r w1 h => by
  have no : ∀ (s : Bool) (w2 : World), (runtimePanic (.bounds (IntKind.i64.wrap x) y s c) : Sem α).run P w2 ≠ .ok r w1 := fun s w2 hh => by simp [runtimePanic, goPanic] at hh
  unfold boundsPanic at h
  dsimp only at h
  split at h
  · exact bind_never no w h
  · exact bind_never no w h
theorem Det.bound {P : Program} (x : Value) (y : Nat) (c : BoundsCode) : Det P (Instr.sliceBound x y c) := by
  unfold Instr.sliceBound
  refine Det.bind (Det.asIntOf x) fun ki => ?_
  obtain ⟨k, i⟩ := ki
  simp only []
  split
  · exact Det.pure _
  · exact Det.bounds _ _ _ _
theorem Det.sliceBounds {P : Program} (b : Bool) (n c : Nat) (lo hi mx : Option Value) : Det P (Instr.sliceBounds b n c lo hi mx) := by
  unfold Instr.sliceBounds
  cases mx <;> cases hi <;> cases lo <;> dsimp only <;> repeat' (first | exact Det.pure _ | exact Det.bound _ _ _ | exact Det.stuck _ | (refine Det.bind ?_ fun _ => ?_))
theorem Det.sureAddr {P : Program} (v : Value) : Det P (Instr.sureAddr v) := by
  unfold Instr.sureAddr
  split
  · exact Det.pure _
  · exact Det.stuck _
theorem Det.asAddr {P : Program} (v : Value) : Det P (asAddr v) := by
  unfold Go.asAddr
  split
  · exact Det.pure _
  · exact Det.never fun w r w1 h => by simp [runtimePanic, goPanic] at h
  · exact Det.stuck _
theorem Det.slice {P : Program} (t : TypeId) (x : Value) (lo hi mx : Option Value) : Det P (Instr.slice t x lo hi mx) := by
  unfold Instr.slice
  refine Det.bind (Det.underlying t) fun T => ?_
  split
  · dsimp only
    split
    all_goals repeat' (first | exact Det.stuck _ | exact Det.sliceBounds _ _ _ _ _ _ | exact Det.pure _ | (refine Det.bind ?_ fun _ => ?_))
  · exact Det.bind (Det.sliceBounds _ _ _ _ _ _) fun _ => Det.bind (Det.sizeOf _) fun _ => Det.pure _
  · refine Det.bind (Det.asAddr _) fun a => Det.bind (Det.underlying _) fun T => ?_
    split
    · exact Det.bind (Det.sliceBounds _ _ _ _ _ _) fun _ => Det.bind (Det.sizeOf _) fun _ => Det.pure _
    · exact Det.stuck _
  · exact Det.stuck _
theorem Det.sliceAt {P : Program} (t : TypeId) (x : Value) (lo hi mx : Option Value) : Det P (Instr.sliceAt t x lo hi mx) := by
  unfold Instr.sliceAt
  refine Det.bind (Det.underlying t) fun T => ?_
  split
  · exact Det.bind (Det.sureAddr _) fun _ => Det.bind (Det.sliceBounds _ _ _ _ _ _) fun _ => Det.bind (Det.sizeOf _) fun _ => Det.pure _
  · exact Det.slice _ _ _ _ _
theorem movedO_call {o : Oper} {s : St DC} {fa : FuncId × List (AV DC)} (h : callee? o s = some fa) : movedO o = false := by
  unfold callee? at h
  unfold movedO
  split at h
  · rename_i c hop
    rw [hop]
  · cases h
theorem moved_run {P : Program} {o : Oper} (hs : movedO o = true) {a : Act} {w : World} {x : Next} (h : (execOp a.eval o).run P w = .ok x w) : ∃ v, x = .value v ∧ ∀ w', (execOp a.eval o).run P w' = .ok (.value v) w' := by
  unfold movedO at hs
  split at hs
  · rename_i y hop
    refine ⟨a.eval y, ?_, fun w => by simp [execOp, hop]⟩
    simp [execOp, hop] at h
    exact h.symm
  · rename_i y hop
    refine ⟨a.eval y, ?_, fun w => by simp [execOp, hop]⟩
    simp [execOp, hop] at h
    exact h.symm
  · rename_i y i hop
    cases hy : a.eval y
    case tuple us =>
      cases hi : us[i]? with
      | some u =>
        refine ⟨u, ?_, fun w => by simp [execOp, hop, Instr.extract, hy, hi]⟩
        simp [execOp, hop, Instr.extract, hy, hi] at h
        exact h.symm
      | none => simp [execOp, hop, Instr.extract, hy, hi, stuck] at h
    all_goals simp [execOp, hop, Instr.extract, hy, stuck] at h
  · rename_i t x lo hi mx hop
    have e : ∀ w', (execOp a.eval o).run P w' = ((Instr.sliceAt t (a.eval x) (lo.map a.eval) (hi.map a.eval) (mx.map a.eval)).run P w').andThen fun v w2 => .ok (.value v) w2 := fun w' => by simp [execOp, hop]
    rw [e] at h
    cases hr : (Instr.sliceAt t (a.eval x) (lo.map a.eval) (hi.map a.eval) (mx.map a.eval)).run P w with
    | ok v w2 =>
      rw [hr, Result.andThen_ok] at h
      simp only [Result.ok.injEq] at h
      exact ⟨v, h.1.symm, fun w' => by rw [e, Det.sliceAt _ _ _ _ _ w v w2 hr w', Result.andThen_ok]⟩
    | _ => rw [hr] at h; cases h
  · cases hs
theorem moved_all {o : Oper} (hs : movedO o = true) {s : St DC} {a : Act} {ρ : List Rb} {z : AV DC × List (W DC)} {w : World} (hz : z.2 = []) (hd : Does P w0 own ρ s a w o z) : ∃ y, ∀ w, (execOp a.eval o).run P w = .ok (.value y) w := by
  obtain ⟨v, w', ρ', g1, g2, g3, g4, g5, g6⟩ := hd
  obtain ⟨rfl, rfl⟩ := g6 hz
  rcases g1 with g1 | ⟨g1, e⟩
  · obtain ⟨y, _, h⟩ := moved_run hs g1
    exact ⟨y, h⟩
  · obtain ⟨y, h0, _⟩ := moved_run hs g1
    cases h0
theorem quiet_succ (hX : Ok P X) {n : Nat} (hq : QuietOk P X w0 own n) (hc : CallOk P X w0 own n) : QuietOk P X w0 own (n + 1) := by
  intro base all todo s r h ρ a hS hl hex
  cases todo with
  | nil =>
    simp only [ev] at h
    have := T.ret_some h
    subst this
    exact fun w' hw' => ⟨ρ, Ext.refl _, trivial, hS, hw'⟩
  | cons o todo =>
    have run : (runOp P X o s onlyNew (fun f args => call P X n f args s.heap) fun r => quietOnly (movedO o) s r (behind (putW o.dst r.1) (ev P X base n (.quiet all todo) (s.apps (putW o.dst r.1))))).pick = some r → (∃ w, WR w0 own ρ s.heap w) →
        o.quiet P a (WR w0 own ρ s.heap) (wpQuiet P all (WR w0 own ρ s.heap) (fun a' => ∀ w', WR w0 own ρ s.heap w' → CodePost w0 own ρ s r .normal a' w') todo) := by
      intro h hw
      unfold runOp at h
      have fin : ∀ z : AV DC × List (W DC), (quietOnly (movedO o) s z (behind (putW o.dst z.1) (ev P X base n (.quiet all todo) (s.apps (putW o.dst z.1))))).pick = some r → ((z.1.solid s.heap.length || movedO o) = true → z.2 = [] → ∃ u, ∀ w, WR w0 own ρ s.heap w → o.quietAt P a (WR w0 own ρ s.heap) w u ∧ VRel ρ z.1 u) →
          o.quiet P a (WR w0 own ρ s.heap) (wpQuiet P all (WR w0 own ρ s.heap) (fun a' => ∀ w', WR w0 own ρ s.heap w' → CodePost w0 own ρ s r .normal a' w') todo) := by
        intro z hz hat
        unfold quietOnly at hz
        split at hz
        · rename_i hcnd
          simp only [Bool.and_eq_true] at hcnd
          have hnil : z.2 = [] := by
            cases hz2 : z.2 with
            | nil => rfl
            | cons x l => rw [hz2] at hcnd; cases hcnd.2
          obtain ⟨w, hw⟩ := hw
          obtain ⟨u, hu⟩ := hat hcnd.1 hnil
          exact ⟨u, fun w hw => (hu w hw).1, quiet_next hq hz hS hl hex (hu w hw).2⟩
        · cases hz
      have same : ∀ (z : AV DC × List (W DC)), (z.1.solid s.heap.length || movedO o) = true → z.2 = [] → (∀ w, WR w0 own ρ s.heap w → Does P w0 own ρ s a w o z) → ∃ u, ∀ w, WR w0 own ρ s.heap w → o.quietAt P a (WR w0 own ρ s.heap) w u ∧ VRel ρ z.1 u := by
        intro z hs hz hd
        rcases Bool.or_eq_true _ _ |>.mp hs with hs | hs
        · refine ⟨den ρ z.1, fun w hw => ?_⟩
          obtain ⟨v, w', ρ', g1, g2, g3, g4, g5, g6⟩ := hd w hw
          obtain ⟨rfl, rfl⟩ := g6 hz
          have hv := den_only hs g3
          subst hv
          refine ⟨?_, g3⟩
          unfold Oper.quietAt
          rcases g1 with g1 | ⟨g1, e⟩
          · rw [g1]; exact ⟨rfl, rfl⟩
          · rw [g1]; exact ⟨rfl, e⟩
        · obtain ⟨w1, hw1⟩ := hex
          obtain ⟨x, hx⟩ := moved_all hs hz (hd w1 hw1)
          refine ⟨x, fun w hw => ?_⟩
          obtain ⟨v, w', ρ', g1, g2, g3, g4, g5, g6⟩ := hd w hw
          obtain ⟨rfl, rfl⟩ := g6 hz
          have hv : v = x := by
            rcases g1 with g1 | ⟨g1, e⟩
            · rw [hx] at g1; cases g1; rfl
            · rw [hx] at g1; cases g1
          subst hv
          refine ⟨?_, g3⟩
          unfold Oper.quietAt
          rw [hx]
          exact ⟨rfl, rfl⟩
      cases hcal : callee? o s with
      | none =>
        rw [hcal] at h
        simp only [] at h
        cases hox : X.opx o s with
        | some t =>
          rw [hox] at h
          obtain ⟨z, h1, h2⟩ := T.bind_some h
          exact fin z h2 fun hs hz => same z hs hz fun w hw => hX.opx o s t z hox h1 w0 own ρ a w hS hw
        | none =>
          rw [hox] at h
          obtain ⟨z, h1, h2⟩ := T.bind_some h
          exact fin z h2 fun hs hz => same z hs hz fun w hw => opA_sound hS hw h1
      | some fa =>
        obtain ⟨f, args⟩ := fa
        rw [hcal] at h
        obtain ⟨vals, he, hv⟩ := callee_spec hS hcal
        simp only [] at h
        cases hk : X.ext f with
        | some k =>
          rw [hk] at h
          obtain ⟨z, h1, h2⟩ := T.bind_some h
          exact fin z h2 fun hs hz => same z hs hz fun w hw => extA_sound hX hw hk he hv h1
        | none =>
          rw [hk] at h
          obtain ⟨z, h1, h2⟩ := T.bind_some h
          obtain ⟨z1, z2⟩ := z
          cases z1 <;> first | (cases h2; done) | skip
          rename_i v
          simp only [] at h2
          obtain ⟨fn, hf, hb⟩ := call_body hX h1
          unfold quietOnly at h2
          rw [movedO_call hcal, Bool.or_false] at h2
          split at h2
          · rename_i hcnd
            simp only [Bool.and_eq_true] at hcnd
            have hnew := onlyNew_nil hcnd.2
            have hcallw : ∀ w, WR w0 own ρ s.heap w → Calls P f vals w fun e w'' => e = .returned (den ρ v) ∧ VRel ρ v (den ρ v) ∧ WR w0 own ρ s.heap w'' := by
              intro w hw
              have hcall := hc _ _ _ _ h1 ρ w vals.toList hw hv
              simp only [Array.toArray_toList] at hcall
              refine hcall.mono fun e w' hp => ?_
              obtain ⟨u, v', ρ', e1, e2, g2, g3, g4⟩ := hp
              cases e1
              have g3' := den_low hcnd.1 g2 hl g3
              have hu := den_only hcnd.1 g3'
              subst hu
              refine ⟨e2, g3', ?_⟩
              obtain ⟨t, ht⟩ := news_heap (heapW z2) s hnew
              rw [← heapW_heap z2 s { slots := [], heap := s.heap } rfl, ht] at g4
              exact g4.old g2 hl hw
            obtain ⟨w, hw⟩ := hw
            have hvr : VRel ρ v (den ρ v) := by
              obtain ⟨e, w', fr, ⟨_, h5, _⟩, _⟩ := hcallw w hw []
              exact h5
            refine ⟨den ρ v, fun w hw => ?_, quiet_next hq h2 hS hl hex hvr⟩
            unfold Oper.quietAt
            rw [he, run_callFunc hX hf hb]
            exact ⟨rfl, (hcallw w hw).mono fun e w'' h => ⟨h.1, h.2.2⟩⟩
          · cases h2
    have skip : (behind (putW o.dst .undef) (ev P X base n (.quiet all todo) (s.apps (putW o.dst .undef)))).pick = some r →
        wpQuiet P all (WR w0 own ρ s.heap) (fun a' => ∀ w', WR w0 own ρ s.heap w' → CodePost w0 own ρ s r .normal a' w') todo (a.put o.dst Go.undef) := fun h => quiet_next hq h hS hl hex rfl
    unfold wpQuiet
    simp only [ev, guardT] at h
    cases hg : o.guard with
    | none =>
      rw [hg] at h
      rw [if_pos (wanted_none hg)]
      exact run h hex
    | some jw =>
      obtain ⟨j, want⟩ := jw
      rw [hg] at h
      simp only [] at h
      rw [wanted_some hg]
      cases hd : slotOf all j with
      | none => rw [hd] at h; cases h
      | some d =>
        rw [hd] at h
        simp only [] at h
        cases hs : s.slots.getD d .dead <;> rw [hs] at h <;> (try simp only [] at h) <;> first | (cases h; done) | skip
        · rw [yielded_undef hS hd hs]
          rw [if_neg (by simp)]
          exact skip h
        · rename_i ab
          rw [yielded_lit hS hd hs]
          cases ab with
          | lit b =>
            simp only [] at h
            split at h
            · rename_i hb
              have hb' : b = want := by simpa using hb
              rw [if_pos (by simp [AB.den, hb'])]
              exact run h hex
            · rename_i hb
              have hb' : ¬ b = want := by simpa using hb
              rw [if_neg (by simp [AB.den, hb'])]
              exact skip h
          | sym b =>
            simp only [] at h
            have fork : ∀ b', b = b' → (behind [.slot d (.bool (.lit b'))] (ev P X base n (.quiet all (o :: todo)) (s.app (.slot d (.bool (.lit b')))))).pick = some r →
                wpQuiet P all (WR w0 own ρ s.heap) (fun a' => ∀ w', WR w0 own ρ s.heap w' → CodePost w0 own ρ s r .normal a' w') (o :: todo) a := by
              intro b' hb h
              obtain ⟨q, h1, h2⟩ := T.bind_some h
              have := T.ret_some h2
              subst this
              have hS' : RS ρ (s.app (.slot d (.bool (.lit b')))).slots a := hS.again fun _ => by
                have := hS.getD d
                rw [hs] at this
                subst hb
                exact this
              have := hq _ _ _ _ _ h1 ρ a hS' hl hex
              exact wpQuiet_mono (fun a' hg w' hw' => Good.before (l := [.slot d (.bool (.lit b'))]) (Ext.refl _) (hg w' hw')) _ _ this
            have hw : wpQuiet P all (WR w0 own ρ s.heap) (fun a' => ∀ w', WR w0 own ρ s.heap w' → CodePost w0 own ρ s r .normal a' w') (o :: todo) a := by
              rcases T.br_some h with ⟨h1, h2⟩ | ⟨h1, h2⟩
              · exact fork true h1 h2
              · exact fork false h1 h2
            unfold wpQuiet at hw
            rw [wanted_some hg, yielded_lit hS hd hs] at hw
            exact hw
end
end Go.Proofs.Ytngcbpcfgolifaa.Ev

namespace Go.Proofs.Ytngcbpcfgolifaa.Ev
open Go.RowKit
set_option linter.unusedVariables false
set_option linter.unusedSimpArgs false
section
variable {P : Program} {X : Cx DC} {w0 : World} {own : List Nat}
theorem chain_zero : ChainOk P X w0 own 0 := by
  intro f all k bs todo listed s r h
  simp only [ev] at h
  cases h
/-- An operation that looks at no memory is told the same whatever stands there. -/
theorem heapFree_opA {o : Oper} (h : heapFree o = true) (s : St DC) (h' : List (AO DC)) (hl : h'.length = s.heap.length) : opA P o { slots := s.slots, heap := h' } = opA P o s := by
  obtain ⟨dst, op, type, pos, after, guard⟩ := o
  cases op <;> first | (cases h; done) | rfl | skip
  all_goals simp only [opA, hl]
/-- What a calm operation yields in every world of a class. -/
theorem calm_val {o : Oper} {a : Act} {ρ : List Rb} {D : World → Prop} {z : AV DC × List (W DC)} {m : Nat} (hs : (z.1.solid m || movedO o) = true) (hz : z.2 = []) (hex : ∃ w, D w) (hd : ∀ w, D w → ∃ s : St DC, Does P w0 own ρ s a w o z) :
    ∃ u, (∀ w, D w → (execOp a.eval o).run P w = .ok (.value u) w ∨ ((execOp a.eval o).run P w = .ok .skip w ∧ u = Go.undef)) ∧ VRel ρ z.1 u := by
  rcases Bool.or_eq_true _ _ |>.mp hs with hs | hs
  · have key : ∀ w, D w → ((execOp a.eval o).run P w = .ok (.value (den ρ z.1)) w ∨ ((execOp a.eval o).run P w = .ok .skip w ∧ den ρ z.1 = Go.undef)) ∧ VRel ρ z.1 (den ρ z.1) := fun w hw => by
      obtain ⟨s, v, w', ρ', g1, g2, g3, g4, g5, g6⟩ := hd w hw
      obtain ⟨rfl, rfl⟩ := g6 hz
      have hv := den_only hs g3
      subst hv
      exact ⟨g1, g3⟩
    obtain ⟨w, hw⟩ := hex
    exact ⟨den ρ z.1, fun w hw => (key w hw).1, (key w hw).2⟩
  · obtain ⟨w, hw⟩ := hex
    obtain ⟨s1, hd1⟩ := hd w hw
    obtain ⟨x, hx⟩ := moved_all hs hz hd1
    refine ⟨x, fun w hw => .inl (hx w), ?_⟩
    obtain ⟨s, v, w', ρ', g1, g2, g3, g4, g5, g6⟩ := hd w hw
    obtain ⟨rfl, rfl⟩ := g6 hz
    have hv : v = x := by
      rcases g1 with g1 | ⟨g1, e⟩
      · rw [hx] at g1; cases g1; rfl
      · rw [hx] at g1; cases g1
    subst hv
    exact g3
theorem chain_next {n : Nat} (hch : ChainOk P X w0 own n) {base : FuncId} {all : Array Oper} {k : Nat} {bs : List Nat} {is : List Nat} {listed : Array Bool} {s : St DC} {l : List (W DC)} {dst : Option Nat} {v : AV DC} {u : Value} {r : Ex DC × List (W DC)} {ρ ρ' : List Rb} {a : Act} {w' : World}
    (h : (behind (l ++ putW dst v) (ev P X base n (.chain all k bs is listed) (s.apps (l ++ putW dst v)))).pick = some r) (hS : RS ρ s.slots a) (hx : Ext ρ ρ') (hv : VRel ρ' v u) (hH : WR w0 own ρ' (s.apps l).heap w') (hs : (s.apps l).slots = s.slots) :
    wpT P .any all (resetsC all k) (WR w0 own [] []) (CodePost w0 own ρ s r .normal) is.length (ClW w0 own ρ' (goneAll bs (s.apps (l ++ putW dst v)).heap) k w') listed (a.put dst u) w' := by
  obtain ⟨q, h1, h2⟩ := T.bind_some h
  have := T.ret_some h2
  subst this
  exact wpT_mono (fun a w hg => Good.before hx hg) is.length _ _ _ _ (hch _ _ _ _ _ _ _ _ h1 ρ' (a.put dst u) w' (SR.put (w := w') hS hx hv hH hs))
theorem setObj_append : ∀ (h t : List (AO DC)) (b i : Nat) (v : AV DC), b < h.length → setObj (h ++ t) b i v = setObj h b i v ++ t
  | [], _, _, _, _, hb => absurd hb (Nat.not_lt_zero _)
  | o :: h, t, 0, i, v, _ => by cases o <;> rfl
  | o :: h, t, b + 1, i, v, hb => by
    have := setObj_append h t b i v (Nat.lt_of_succ_lt_succ hb)
    cases o <;> simp [setObj, this]
theorem old_apps (n : Nat) : ∀ (l : List (W DC)) (sl sl' : List (AV DC)) (h t : List (AO DC)), h.length = n → l.all (oldW n) = true →
    (({ slots := sl, heap := h ++ t } : St DC).apps l) = { slots := sl, heap := (({ slots := sl', heap := h } : St DC).apps l).heap ++ t } ∧ (({ slots := sl', heap := h } : St DC).apps l).heap.length = n ∧ (({ slots := sl', heap := h } : St DC).apps l).slots = sl'
  | [], sl, sl', h, t, hn, _ => ⟨rfl, hn, rfl⟩
  | .cell b i v :: l, sl, sl', h, t, hn, hl => by
    rw [List.all_cons, Bool.and_eq_true] at hl
    have hb : b < h.length := by rw [hn]; exact Nat.le_of_ble_eq_true hl.1
    have := old_apps n l sl sl' (setObj h b i v) t (by rw [setObj_length]; exact hn) hl.2
    simp only [St.apps, St.app]
    rw [setObj_append h t b i v hb]
    exact this
  | .obj b o :: l, sl, sl', h, t, hn, hl => by
    rw [List.all_cons, Bool.and_eq_true] at hl
    have hb : b < h.length := by rw [hn]; exact Nat.le_of_ble_eq_true hl.1
    have := old_apps n l sl sl' (h.set b o) t (by simpa using hn) hl.2
    simp only [St.apps, St.app]
    rw [List.set_append_left _ _ hb]
    exact this
  | .slot _ _ :: l, _, _, _, _, _, hl => by simp [oldW] at hl
  | .new _ :: l, _, _, _, _, _, hl => by simp [oldW] at hl
theorem new_apps : ∀ (l : List (W DC)) (s : St DC), l.all isNew = true → ∃ t, ∀ s' : St DC, (s'.apps l) = { slots := s'.slots, heap := s'.heap ++ t }
  | [], s, _ => ⟨[], fun s' => by simp [St.apps]⟩
  | .new o :: l, s, h => by
    simp only [List.all_cons, isNew, Bool.true_and] at h
    obtain ⟨t, ht⟩ := new_apps l s h
    exact ⟨o :: t, fun s' => by rw [St.apps, ht]; simp [St.app]⟩
  | .slot _ _ :: l, s, h => by simp [isNew] at h
  | .cell _ _ _ :: l, s, h => by simp [isNew] at h
  | .obj _ _ :: l, s, h => by simp [isNew] at h
theorem evalA_set {sl : List (AV DC)} {d : Nat} {v : AV DC} {x : Operand} (h : notTmp d x = true) : evalA (sl.set d v) x = evalA sl x := by
  cases x with
  | tmp y =>
    have hne : d ≠ y := fun e => by
      subst e
      simp [notTmp] at h
    simp only [evalA]
    rw [List.getD_eq_getElem?_getD, List.getD_eq_getElem?_getD, List.getElem?_set_ne hne]
  | _ => rfl
theorem store_ext {t : TypeId} {b : Nat} {off : AN DC} {v : AV DC} {h u : List (AO DC)} (hb : b < h.length) : storeA P (h ++ u) t b off v = storeA P h t b off v ∧ storeRow P (h ++ u) t b off v = storeRow P h t b off v := by
  unfold storeA storeRow
  rw [List.getElem?_append_left hb]
  exact ⟨rfl, rfl⟩
/-- A store does the same beside more blocks. -/
theorem store_opA {o : Oper} {t : TypeId} {x y : Operand} (ho : o.op = .store t x y) {sl : List (AV DC)} {h u : List (AO DC)} {d : Nat} {v : AV DC} (hx : notTmp d x = true) (hy : notTmp d y = true) {z : AV DC × List (W DC)}
    (hz : (opA P o { slots := sl, heap := h }).pick = some z) : (opA P o { slots := sl.set d v, heap := h ++ u }).pick = some z := by
  simp only [opA, ho] at hz ⊢
  rw [evalA_set hx, evalA_set hy]
  cases hv : evalA sl x <;> rw [hv] at hz <;> first | (cases hz; done) | skip
  rename_i b off
  simp only [] at hz ⊢
  have hb : b < h.length := by
    rcases Nat.lt_or_ge b h.length with hb | hb
    · exact hb
    · have hn : h[b]? = none := List.getElem?_eq_none hb
      unfold storeA storeRow at hz
      rw [hn] at hz
      cases hs : sizeT P t <;> rw [hs] at hz <;> cases hz
  rw [(store_ext hb).1, (store_ext hb).2]
  exact hz
theorem box_opA {p : Oper} {e : TypeId} {x : Operand} (hp : p.op = .box e x) {s s' : St DC} (hs : s.slots = s'.slots) (hl : s.heap.length = s'.heap.length) : opA P p s = opA P p s' := by
  simp only [opA, hp, hs, hl]
theorem gA_len : ∀ (bs : List Nat) (h : List (AO DC)), (goneAll bs h).length = h.length
  | [], _ => rfl
  | b :: bs, h => by
    simp only [goneAll]
    rw [gA_len bs, List.length_set]
theorem gA_append : ∀ (bs : List Nat) (h t : List (AO DC)), ∃ t', goneAll bs (h ++ t) = goneAll bs h ++ t'
  | [], h, t => ⟨t, rfl⟩
  | b :: bs, h, t => by
    simp only [goneAll]
    by_cases hb : b < h.length
    · rw [List.set_append_left _ _ hb]
      exact gA_append bs _ t
    · rw [List.set_append_right _ _ (Nat.le_of_not_lt hb), List.set_eq_of_length_le (Nat.le_of_not_lt hb)]
      exact gA_append bs h _
theorem gA_get : ∀ (bs : List Nat) (h : List (AO DC)) (i : Nat), (goneAll bs h)[i]? = if bs.any (Nat.beq i) then (h[i]?).map fun _ => .gone else h[i]?
  | [], h, i => rfl
  | b :: bs, h, i => by
    simp only [goneAll]
    rw [gA_get bs, List.any_cons]
    by_cases hib : i = b
    · subst hib
      rw [Nat.beq_refl, Bool.true_or, if_pos rfl]
      by_cases hl : i < h.length
      · simp [hl]
      · simp [hl]
    · have : Nat.beq i b = false := by
        cases hh : Nat.beq i b
        · rfl
        · exact absurd (Nat.eq_of_beq_eq_true hh) hib
      rw [this, Bool.false_or, List.getElem?_set_ne (fun e => hib e.symm)]
theorem gA_cell (bs : List Nat) (h : List (AO DC)) (b i : Nat) (v : AV DC) (hb : bs.any (Nat.beq b) = true) : goneAll bs (setObj h b i v) = goneAll bs h := by
  apply List.ext_getElem?
  intro c
  rw [gA_get, gA_get]
  by_cases hc : c = b
  · subst hc
    rw [if_pos hb, if_pos hb, setObj_same]
    cases h[c]? <;> rfl
  · rw [setObj_other h b i v c hc]
theorem gA_set (bs : List Nat) (h : List (AO DC)) (b : Nat) (o : AO DC) (hb : bs.any (Nat.beq b) = true) : goneAll bs (h.set b o) = goneAll bs h := by
  apply List.ext_getElem?
  intro c
  rw [gA_get, gA_get]
  by_cases hc : c = b
  · subst hc
    rw [if_pos hb, if_pos hb]
    by_cases hl : c < h.length
    · simp [hl]
    · simp [hl]
  · rw [List.getElem?_set_ne (fun e => hc e.symm)]
theorem keeps_heap (bs : List Nat) : ∀ (l : List (W DC)) (s : St DC), l.all (keepsW bs) = true → ∃ t, goneAll bs (s.apps l).heap = goneAll bs s.heap ++ t
  | [], s, _ => ⟨[], by simp [St.apps]⟩
  | .new o :: l, s, h => by
    simp only [List.all_cons, keepsW, Bool.true_and] at h
    obtain ⟨t, ht⟩ := keeps_heap bs l (s.app (.new o)) h
    obtain ⟨t', ht'⟩ := gA_append bs s.heap [o]
    refine ⟨t' ++ t, ?_⟩
    rw [St.apps, ht]
    show goneAll bs (s.heap ++ [o]) ++ t = _
    rw [ht', List.append_assoc]
  | .cell b i v :: l, s, h => by
    rw [List.all_cons, Bool.and_eq_true] at h
    obtain ⟨t, ht⟩ := keeps_heap bs l (s.app (.cell b i v)) h.2
    refine ⟨t, ?_⟩
    rw [St.apps, ht]
    show goneAll bs (setObj s.heap b i v) ++ t = _
    rw [gA_cell bs _ _ _ _ h.1]
  | .obj b o :: l, s, h => by
    rw [List.all_cons, Bool.and_eq_true] at h
    obtain ⟨t, ht⟩ := keeps_heap bs l (s.app (.obj b o)) h.2
    refine ⟨t, ?_⟩
    rw [St.apps, ht]
    show goneAll bs (s.heap.set b o) ++ t = _
    rw [gA_set bs _ _ _ h.1]
  | .slot _ _ :: l, s, h => by simp [keepsW] at h
theorem chain_pair {n : Nat} (hch : ChainOk P X w0 own n) {base : FuncId} {all : Array Oper} {k i j : Nat} {bs : List Nat} {is : List Nat} {listed : Array Bool} {s : St DC} {o p : Oper} {r : Ex DC × List (W DC)} {ρ : List Rb} {a : Act} {w : World} (hk61 : Nat.testBit k 61 = false)
    (ho : all[i]? = some o) (hp : all[j]? = some p) (hgo : o.guard = none) (hok : pairOk all k listed i j o p = true) (hne : Region.ready .any all listed ≠ [])
    (h : ((opA P o s).bind fun y => if y.2.all (oldW s.heap.length) && (resetsC all k i || y.2.all (keepsW bs)) then (opA P p (s.apps y.2)).bind fun z => if z.2.all isNew then
        behind (y.2 ++ (z.2 ++ putW p.dst z.1)) (ev P X base n (.chain all k bs is ((listed.setIfInBounds i true).setIfInBounds j true)) (s.apps (y.2 ++ (z.2 ++ putW p.dst z.1)))) else .fail else .fail).pick = some r) (H : SR w0 own ρ s a w) :
    wpT P .any all (resetsC all k) (WR w0 own [] []) (CodePost w0 own ρ s r .normal) (is.length + 1 + 1) (WR w0 own ρ (goneAll bs s.heap)) listed a w := by
  unfold pairOk at hok
  rw [Bool.and_eq_true] at hok
  obtain ⟨hkind, hrest⟩ := hok
  simp only [Bool.and_eq_true, List.all_eq_true, beq_iff_eq] at hrest
  obtain ⟨hnij, hready, hr1, hr2⟩ := hrest
  have hneij : i ≠ j := fun e => by subst e; rw [Nat.beq_refl] at hnij; cases hnij
  split at hkind
  · rename_i t x y e u d hop hpp hdo hdp hgp
    rw [Bool.and_eq_true] at hkind
    obtain ⟨y1, g1, g2⟩ := T.bind_some h
    split at g2
    · rename_i hold
      rw [Bool.and_eq_true] at hold
      obtain ⟨hold, hkeep⟩ := hold
      obtain ⟨z1, g3, g4⟩ := T.bind_some g2
      split at g4
      · rename_i hnew
        obtain ⟨q, g5, g6⟩ := T.bind_some g4
        have := T.ret_some g6
        subst this
        obtain ⟨tt, htt⟩ := new_apps z1.2 s hnew
        obtain ⟨b1, b2, b3⟩ := old_apps s.heap.length y1.2 s.slots s.slots s.heap tt rfl hold
        have hsl : (s.apps y1.2).slots = s.slots := b3
        -- behind both, in either order
        have fin : ∀ (ρ' : List Rb) (a' : Act) (w' : World), Ext ρ ρ' → SR w0 own ρ' (s.apps (y1.2 ++ (z1.2 ++ putW p.dst z1.1))) a' w' →
            wpT P .any all (resetsC all k) (WR w0 own [] []) (CodePost w0 own ρ s (q.1, y1.2 ++ (z1.2 ++ putW p.dst z1.1) ++ q.2) .normal) is.length (WR w0 own ρ' (goneAll bs (s.apps (y1.2 ++ (z1.2 ++ putW p.dst z1.1))).heap)) ((listed.setIfInBounds i true).setIfInBounds j true) a' w' :=
          fun ρ' a' w' hx HS => wpT_mono (fun a w hg => Good.before hx hg) is.length _ _ _ _ (by
            have := hch _ _ _ _ _ _ _ _ g5 ρ' a' w' HS
            rwa [ClW_eq hk61] at this)
        refine ⟨H.2.hideAll bs, .inr ⟨hne, fun f hf => ?_⟩⟩
        have hfij : f = i ∨ f = j := by
          have := hready f hf
          rw [Bool.or_eq_true] at this
          exact this.imp Nat.eq_of_beq_eq_true Nat.eq_of_beq_eq_true
        rcases hfij with rfl | rfl
        · -- the store first
          unfold wpOp
          simp only [ho]
          rw [if_pos (wanted_none hgo)]
          refine .inl ?_
          obtain ⟨v, w1, ρ1, k1, k2, k3, k4, k5, _⟩ := opA_sound H.1 H.2 g1
          refine k1.wp ⟨WR w0 own ρ1 (goneAll bs (s.apps y1.2).heap), fun x hx => hx.bare, fun e x hx => ?_, k4.hideAll bs, k4.hideAll bs, .inr ⟨by rw [hr1]; exact List.cons_ne_nil _ _, fun f2 hf2 => ?_⟩⟩
          · rw [e, Bool.false_or] at hkeep
            obtain ⟨t2, ht2⟩ := keeps_heap bs y1.2 s hkeep
            rw [ht2] at hx
            exact hx.old k2 (by rw [gA_len]; exact H.2.len) (H.2.hideAll bs)
          rw [hr1, List.mem_singleton] at hf2
          subst hf2
          unfold wpOp
          simp only [hp]
          rw [if_pos (wanted_none hgp)]
          refine .inl ?_
          have hS1 : RS ρ1 (s.apps y1.2).slots (a.put o.dst v) := by
            rw [hsl, hdo]
            exact H.1.mono k2
          obtain ⟨v2, w2, ρ2, m1, m2, m3, m4, m5, _⟩ := opA_sound hS1 k4 g3
          have HS := SR.put (dst := p.dst) (w := w2) hS1 m2 m3 m4 m5
          rw [← apps_append] at HS
          refine m1.wp ⟨WR w0 own ρ2 (goneAll bs (s.apps (y1.2 ++ (z1.2 ++ putW p.dst z1.1))).heap), fun x hx => hx.bare, fun _ x hx => ?_, HS.2.hideAll bs, fin ρ2 _ w2 (k2.trans m2) HS⟩
          have he : (s.apps (y1.2 ++ (z1.2 ++ putW p.dst z1.1))).heap = (s.apps y1.2).heap ++ tt := by
            rw [apps_append, apps_append, htt, hdp]
            rfl
          obtain ⟨t2, ht2⟩ := gA_append bs (s.apps y1.2).heap tt
          rw [he, ht2] at hx
          exact hx.old m2 (by rw [gA_len]; exact k4.len) (k4.hideAll bs)
        · -- the new block first
          unfold wpOp
          simp only [hp]
          rw [if_pos (wanted_none hgp)]
          refine .inl ?_
          have g3' : (opA P p s).pick = some z1 := by rw [box_opA (P := P) hpp (s := s) (s' := s.apps y1.2) hsl.symm b2.symm]; exact g3
          obtain ⟨v2, w1, ρ1, m1, m2, m3, m4, m5, _⟩ := opA_sound H.1 H.2 g3'
          have HS := SR.put (dst := p.dst) (w := w1) H.1 m2 m3 m4 m5
          have hB : s.apps (z1.2 ++ putW p.dst z1.1) = { slots := s.slots.set d z1.1, heap := s.heap ++ tt } := by
            rw [apps_append, htt, hdp]
            rfl
          refine m1.wp ⟨WR w0 own ρ1 (goneAll bs (s.apps (z1.2 ++ putW p.dst z1.1)).heap), fun x hx => hx.bare, fun _ x hx => ?_, HS.2.hideAll bs, HS.2.hideAll bs, .inr ⟨by rw [hr2]; exact List.cons_ne_nil _ _, fun f2 hf2 => ?_⟩⟩
          · obtain ⟨t2, ht2⟩ := gA_append bs s.heap tt
            rw [hB] at hx
            have hx : WR w0 own ρ1 (goneAll bs (s.heap ++ tt)) x := hx
            rw [ht2] at hx
            exact hx.old m2 (by rw [gA_len]; exact H.2.len) (H.2.hideAll bs)
          rw [hr2, List.mem_singleton] at hf2
          subst hf2
          unfold wpOp
          simp only [ho]
          rw [if_pos (wanted_none hgo)]
          refine .inl ?_
          have g1' : (opA P o (s.apps (z1.2 ++ putW p.dst z1.1))).pick = some y1 := by
            rw [hB]
            exact store_opA (P := P) hop (sl := s.slots) (h := s.heap) hkind.1 hkind.2 g1
          obtain ⟨v, w2, ρ2, k1, k2, k3, k4, k5, _⟩ := opA_sound HS.1 HS.2 g1'
          have hend : s.apps (y1.2 ++ (z1.2 ++ putW p.dst z1.1)) = (s.apps (z1.2 ++ putW p.dst z1.1)).apps y1.2 := by
            rw [hB, (old_apps s.heap.length y1.2 (s.slots.set d z1.1) s.slots s.heap tt rfl hold).1, apps_append, apps_append, htt, hdp]
            show ({ slots := ((s.apps y1.2).slots).set d z1.1, heap := (s.apps y1.2).heap ++ tt } : St DC) = _
            rw [hsl]
          have HE : SR w0 own ρ2 (s.apps (y1.2 ++ (z1.2 ++ putW p.dst z1.1))) ((a.put p.dst v2).put o.dst v) w2 := by
            rw [hend, hdo]
            exact ⟨by rw [k5]; exact HS.1.mono k2, k4⟩
          refine k1.wp ⟨WR w0 own ρ2 (goneAll bs (s.apps (y1.2 ++ (z1.2 ++ putW p.dst z1.1))).heap), fun x hx => hx.bare, fun e x hx => ?_, HE.2.hideAll bs, ?_⟩
          · rw [e, Bool.false_or] at hkeep
            obtain ⟨t2, ht2⟩ := keeps_heap bs y1.2 (s.apps (z1.2 ++ putW p.dst z1.1)) hkeep
            rw [hend, ht2] at hx
            exact hx.old k2 (by rw [gA_len]; exact HS.2.len) (HS.2.hideAll bs)
          have := fin ρ2 _ w2 (m2.trans k2) HE
          rwa [Array.setIfInBounds_comm _ _ hneij] at this
      · cases g4
    · cases g2
  · cases hkind
theorem free_noload {o : Oper} (h : heapFree o = true) {s : St DC} : loadQ P s o = false := by
  unfold heapFree at h
  unfold loadQ
  cases hop : o.op <;> rw [hop] at h <;> first | rfl | (cases h; done)
/-- What a load of a known cell yields hangs on the memory alone. -/
theorem load_det {o : Oper} {a : Act} {ρ : List Rb} {s : St DC} {h : List (AO DC)} {w : World} {z : AV DC × List (W DC)} (hq : loadQ P { slots := s.slots, heap := h } o = true) (hS : RS ρ s.slots a) (H : WR w0 own ρ h w)
    (hz : (opA P o { slots := s.slots, heap := h }).pick = some z) : ∃ v, VRel ρ z.1 v ∧ ∀ x : World, (∀ b, b < w.heap.size → x.heap[b]? = w.heap[b]?) → (execOp a.eval o).run P x = .ok (.value v) x := by
  unfold loadQ at hq
  split at hq
  · rename_i t y hop
    split at hq
    · rename_i b off ha hy
      cases hl : loadA P h t b off with
      | none => simp only [hl] at hq; cases hq
      | some av =>
        simp only [opA, hop, hy, hl] at hz
        have := T.ret_some hz
        subst this
        have hx := evalA_rel hS y
        rw [show evalA s.slots y = .ptr b off from hy] at hx
        obtain ⟨r, hr, hx⟩ := hx
        have hl1 : load1 h b off = some av := by
          unfold loadA at hl
          rw [ha] at hl
          exact hl
        obtain ⟨u, hu, hv⟩ := load1_run H hl1 hr
        refine ⟨u, hv, fun x hxw => ?_⟩
        have hc : x.cell? (r.ad off.den) = some u := by
          have hlt : (r.ad off.den).block < w.heap.size := by
            rcases Nat.lt_or_ge (r.ad off.den).block w.heap.size with h1 | h1
            · exact h1
            · unfold World.cell? at hu
              rw [Array.getElem?_eq_none h1] at hu
              cases hu
          unfold World.cell? at hu ⊢
          rw [hxw _ hlt]
          exact hu
        simp only [execOp, hop, hx, Instr.loadAt, Instr.sureAddr, pure_bind, loadVar, Sem.run_bind, run_isAggT ha, Result.andThen_ok, Bool.false_eq_true, if_false, run_load_cell hc]
        rfl
    · cases hq
  · cases hq
theorem fresh_call {o : Oper} {s : St DC} {fa : FuncId × List (AV DC)} (h : callee? o s = some fa) : freshO o = false := by
  unfold callee? at h
  unfold freshO
  cases hop : o.op <;> rw [hop] at h <;> first | rfl | (cases h; done)
theorem chain_succ (hX : Ok P X) {n : Nat} (hch : ChainOk P X w0 own n) (hc : CallOk P X w0 own n) : ChainOk P X w0 own (n + 1) := by
  intro base all k bs todo listed s r h ρ a w H
  cases todo with
  | nil =>
    simp only [ev] at h
    split at h
    · rename_i hr
      have := T.ret_some h
      subst this
      exact ⟨by simpa using hr, ρ, Ext.refl _, trivial, H⟩
    · cases h
  | cons i is =>
    simp only [ev] at h
    cases ho : all[i]? with
    | none => rw [ho] at h; cases h
    | some o =>
      rw [ho] at h
      simp only [] at h
      have hput : ∀ v : AV DC, (s.apps ([] ++ putW o.dst v)).heap = s.heap := fun v => by cases o.dst <;> rfl
      split at h
      · rename_i hcalm
        split at h
        · rename_i hg
          simp only [Bool.and_eq_true, Bool.or_eq_true, List.contains_iff_mem] at hg
          obtain ⟨hr, hf, hro⟩ := hg
          -- the class that it is told in
          obtain ⟨D, hCD, hres, hdoes, hsame⟩ : ∃ D : World → Prop, (∀ x, ClW w0 own ρ (goneAll bs s.heap) k w x → D x) ∧ ((∀ x, WR w0 own [] [] x → D x) ∨ ∀ j, resetsC all k j = true → ∀ l, ClosedL .any all l → j ∈ Region.ready .any all l → l.getD i false = true) ∧
              (∀ z, (opA P o { slots := s.slots, heap := goneAll bs s.heap }).pick = some z → ∀ x, D x → ∃ s1 : St DC, Does P w0 own ρ s1 a x o z) ∧ (Nat.testBit k 61 = true → loadQ P { slots := s.slots, heap := goneAll bs s.heap } o = true → ∀ x, D x → ∀ b, b < w.heap.size → x.heap[b]? = w.heap[b]?) := by
            rcases hro with hro | hro
            · refine ⟨WR w0 own ρ (s.heap.map fun _ => .gone), fun x hx => hx.1.bare.hidden ρ s.heap H.2.len, .inl fun x hx => hx.hidden ρ s.heap H.2.len, fun z hz x hx => ⟨{ slots := s.slots, heap := s.heap.map fun _ => .gone }, ?_⟩, fun _ hq => by rw [free_noload hro] at hq; cases hq⟩
              exact opA_sound (s := { slots := s.slots, heap := s.heap.map fun _ => .gone }) H.1 hx (by rw [← heapFree_opA hro { slots := s.slots, heap := s.heap.map fun _ => .gone } (goneAll bs s.heap) (by simp [gA_len])]; exact hz)
            · refine ⟨ClW w0 own ρ (goneAll bs s.heap) k w, fun x hx => hx, .inr fun j hj l hl hjr => ?_, fun z hz x hx => ⟨{ slots := s.slots, heap := goneAll bs s.heap }, opA_sound (s := { slots := s.slots, heap := goneAll bs s.heap }) H.1 hx.1 hz⟩, fun hk _ x hx => hx.2 hk⟩
              have hjl : j < all.size := by
                obtain ⟨_, oj, hoj, _⟩ := mem_ready.1 hjr
                exact (Array.getElem?_eq_some_iff.1 hoj).1
              unfold readsOk at hro
              have h1 := List.all_eq_true.1 hro j (List.mem_range.2 hjl)
              rw [hj, Bool.not_true, Bool.false_or] at h1
              exact mustB_ready hl hjr h1
          have run : ((opA P o { slots := s.slots, heap := goneAll bs s.heap }).bind fun r => quietOnly (movedO o || (Nat.testBit k 61 && loadQ P { slots := s.slots, heap := goneAll bs s.heap } o)) s r (behind (putW o.dst r.1) (ev P X base n (.chain all k bs is (listed.setIfInBounds i true)) (s.apps (putW o.dst r.1))))).pick = some r → Region.wanted o (yielded all a.tmps) = true →
              wpT P .any all (resetsC all k) (WR w0 own [] []) (CodePost w0 own ρ s r .normal) (is.length + 1) (ClW w0 own ρ (goneAll bs s.heap) k w) listed a w := by
            intro h hw
            obtain ⟨z, h1, h2⟩ := T.bind_some h
            unfold quietOnly at h2
            split at h2
            · rename_i hcnd
              simp only [Bool.and_eq_true] at hcnd
              have hnil : z.2 = [] := by
                cases hz2 : z.2 with
                | nil => rfl
                | cons x l => rw [hz2] at hcnd; cases hcnd.2
              have hex : ∃ w, D w := ⟨w, hCD w ⟨H.2.hideAll bs, fun _ _ _ => rfl⟩⟩
              obtain ⟨u, hu, hv⟩ : ∃ u, (∀ w, D w → (execOp a.eval o).run P w = .ok (.value u) w ∨ ((execOp a.eval o).run P w = .ok .skip w ∧ u = Go.undef)) ∧ VRel ρ z.1 u := by
                have hc1 := hcnd.1
                rw [← Bool.or_assoc, Bool.or_eq_true] at hc1
                rcases hc1 with hc1 | hc1
                · exact calm_val hc1 hnil hex (hdoes z h1)
                · rw [Bool.and_eq_true] at hc1
                  obtain ⟨v, hv, hall⟩ := load_det hc1.2 H.1 (H.2.hideAll bs) h1
                  exact ⟨v, fun x hx => .inl (hall x (hsame hc1.1 hc1.2 x hx)), hv⟩
              have hn := chain_next hch (l := []) (listed := listed.setIfInBounds i true) (w' := w) h2 H.1 (Ext.refl ρ) hv H.2 rfl
              rw [hput] at hn
              exact ⟨⟨H.2.hideAll bs, fun _ _ _ => rfl⟩, .inl ⟨i, o, u, D, ho, hr, hf, hCD, hres, .inl ⟨hw, hu⟩, hn⟩⟩
            · cases h2
          have skip : (behind (putW o.dst .undef) (ev P X base n (.chain all k bs is (listed.setIfInBounds i true)) (s.apps (putW o.dst .undef)))).pick = some r → Region.wanted o (yielded all a.tmps) = false →
              wpT P .any all (resetsC all k) (WR w0 own [] []) (CodePost w0 own ρ s r .normal) (is.length + 1) (ClW w0 own ρ (goneAll bs s.heap) k w) listed a w := by
            intro h hw
            have hn := chain_next hch (l := []) (listed := listed.setIfInBounds i true) (w' := w) (u := Go.undef) h H.1 (Ext.refl ρ) rfl H.2 rfl
            rw [hput] at hn
            exact ⟨⟨H.2.hideAll bs, fun _ _ _ => rfl⟩, .inl ⟨i, o, Go.undef, D, ho, hr, hf, hCD, hres, .inr ⟨hw, rfl⟩, hn⟩⟩
          unfold guardT at h
          cases hgd : o.guard with
          | none =>
            rw [hgd] at h
            exact run h (wanted_none hgd)
          | some jw =>
            obtain ⟨j, want⟩ := jw
            rw [hgd] at h
            simp only [] at h
            cases hd : slotOf all j with
            | none => rw [hd] at h; cases h
            | some d =>
              rw [hd] at h
              simp only [] at h
              cases hs : s.slots.getD d .dead <;> rw [hs] at h <;> (try simp only [] at h) <;> first | (cases h; done) | skip
              · refine skip h ?_
                rw [wanted_some hgd, yielded_undef H.1 hd hs]
                simp
              · rename_i ab
                cases ab with
                | lit b =>
                  simp only [] at h
                  split at h
                  · rename_i hb
                    have hb' : b = want := by simpa using hb
                    refine run h ?_
                    rw [wanted_some hgd, yielded_lit H.1 hd hs]
                    simp [AB.den, hb']
                  · rename_i hb
                    have hb' : ¬ b = want := by simpa using hb
                    refine skip h ?_
                    rw [wanted_some hgd, yielded_lit H.1 hd hs]
                    simp [AB.den, hb']
                | sym b =>
                  simp only [] at h
                  have fork : ∀ b', b = b' → (behind [.slot d (.bool (.lit b'))] (ev P X base n (.chain all k bs (i :: is) listed) (s.app (.slot d (.bool (.lit b')))))).pick = some r →
                      wpT P .any all (resetsC all k) (WR w0 own [] []) (CodePost w0 own ρ s r .normal) (is.length + 1) (ClW w0 own ρ (goneAll bs s.heap) k w) listed a w := by
                    intro b' hb h
                    obtain ⟨q, h1, h2⟩ := T.bind_some h
                    have := T.ret_some h2
                    subst this
                    have := hch _ _ _ _ _ _ _ _ h1 ρ a w (H.known hs hb)
                    exact wpT_mono (fun a w hg => Good.before (l := [.slot d (.bool (.lit b'))]) (Ext.refl _) hg) _ _ _ _ _ this
                  rcases T.br_some h with ⟨h1, h2⟩ | ⟨h1, h2⟩
                  · exact fork true h1 h2
                  · exact fork false h1 h2
        · cases h
      · rename_i hcalm
        split at h
        · rename_i j hready hgd
          split at h
          · rename_i hij
            have := Nat.eq_of_beq_eq_true hij
            subst this
            refine ⟨⟨H.2.hideAll bs, fun _ _ _ => rfl⟩, .inr ⟨by rw [hready]; exact List.cons_ne_nil _ _, fun q hq => ?_⟩⟩
            rw [hready, List.mem_singleton] at hq
            rw [hq]
            unfold wpOp
            simp only [ho]
            rw [if_pos (wanted_none hgd)]
            refine .inl ?_
            -- what follows behind it
            have next : ∀ (z : AV DC × List (W DC)) (v : Value) (w' : World) (ρ' : List Rb), (freshO o = true → Old w w') → (if (resetsC all k i || ((!(Nat.testBit k 61) || freshO o) && z.2.all (keepsW bs))) = true then behind (z.2 ++ putW o.dst z.1) (ev P X base n (.chain all k bs is (listed.setIfInBounds i true)) (s.apps (z.2 ++ putW o.dst z.1))) else .fail).pick = some r →
                Ext ρ ρ' → VRel ρ' z.1 v → WR w0 own ρ' (s.apps z.2).heap w' → (s.apps z.2).slots = s.slots →
                ∃ C' : World → Prop, (∀ x, C' x → WR w0 own [] [] x) ∧ (resetsC all k i = false → ∀ x, C' x → ClW w0 own ρ (goneAll bs s.heap) k w x) ∧ C' w' ∧
                  wpT P .any all (resetsC all k) (WR w0 own [] []) (CodePost w0 own ρ s r .normal) is.length C' (listed.setIfInBounds i true) (a.put o.dst v) w' := by
              intro z v w' ρ' hold hz g2 g3 g4 g5
              split at hz
              · rename_i hcnd
                have hheap : (s.apps (z.2 ++ putW o.dst z.1)).heap = (s.apps z.2).heap := by
                  rw [apps_append]
                  cases o.dst <;> rfl
                refine ⟨ClW w0 own ρ' (goneAll bs (s.apps (z.2 ++ putW o.dst z.1)).heap) k w', fun x hx => hx.1.bare, fun hrs x hx => ?_, ⟨by rw [hheap]; exact g4.hideAll bs, fun _ _ _ => rfl⟩, chain_next hch hz H.1 g2 g3 g4 g5⟩
                rw [hrs, Bool.false_or, Bool.and_eq_true] at hcnd
                obtain ⟨t, ht⟩ := keeps_heap bs z.2 s hcnd.2
                have hx2 := hx.2
                have hx := hx.1
                rw [hheap, ht] at hx
                refine ⟨hx.old g2 (by rw [gA_len]; exact H.2.len) (H.2.hideAll bs), fun e b hb => ?_⟩
                have hf := hcnd.1
                rw [e, Bool.not_true, Bool.false_or] at hf
                have ho' := hold hf
                exact (hx2 e b (Nat.lt_of_lt_of_le hb ho'.1)).trans (ho'.2 b hb)
              · cases hz
            unfold runOp at h
            cases hcal : callee? o s with
            | none =>
              rw [hcal] at h
              simp only [] at h
              cases hox : X.opx o s with
              | some t =>
                rw [hox] at h
                obtain ⟨z, h1, h2⟩ := T.bind_some h
                obtain ⟨v, w', ρ', g1, g2, g3, g4, g5, _⟩ := hX.opx o s t z hox h1 w0 own ρ a w H.1 H.2
                exact g1.wp (next z v w' ρ' (fun hf => fresh_keeps hf g1) h2 g2 g3 g4 g5)
              | none =>
                rw [hox] at h
                obtain ⟨z, h1, h2⟩ := T.bind_some h
                obtain ⟨v, w', ρ', g1, g2, g3, g4, g5, _⟩ := opA_sound H.1 H.2 h1
                exact g1.wp (next z v w' ρ' (fun hf => fresh_keeps hf g1) h2 g2 g3 g4 g5)
            | some fa =>
              obtain ⟨f, args⟩ := fa
              rw [hcal] at h
              obtain ⟨vals, he, hv⟩ := callee_spec H.1 hcal
              simp only [] at h
              cases hk : X.ext f with
              | some kx =>
                rw [hk] at h
                obtain ⟨z, h1, h2⟩ := T.bind_some h
                obtain ⟨v, w', ρ', g1, g2, g3, g4, g5, _⟩ := extA_sound hX H.2 hk he hv h1
                exact g1.wp (next z v w' ρ' (fun hf => fresh_keeps hf g1) h2 g2 g3 g4 g5)
              | none =>
                rw [hk] at h
                obtain ⟨z, h1, h2⟩ := T.bind_some h
                obtain ⟨z1, z2⟩ := z
                cases z1 <;> first | (cases h2; done) | skip
                rename_i v
                simp only [] at h2
                have hcall := hc _ _ _ _ h1 ρ w vals.toList H.2 hv
                simp only [Array.toArray_toList] at hcall
                unfold Oper.wp
                obtain ⟨fn, hf, hb⟩ := call_body hX h1
                rw [he, run_callFunc hX hf hb, Oper.upon_enter]
                refine hcall.mono fun e w' hp => ?_
                obtain ⟨u, v', ρ', e1, e2, g2, g3, g4⟩ := hp
                cases e1
                subst e2
                exact next (v, heapW z2) u w' ρ' (fun hf => absurd hf (by rw [fresh_call hcal]; simp)) h2 g2 g3 (by rw [heapW_heap z2 s { slots := [], heap := s.heap } rfl]; exact g4) (heapW_none z2 s)
          · cases h
        · rename_i q1 q2 hready hgd
          cases is with
          | nil => cases h
          | cons j is =>
            simp only [] at h
            cases hpj : all[j]? with
            | none => rw [hpj] at h; cases h
            | some p =>
              rw [hpj] at h
              simp only [] at h
              split at h
              · rename_i hok
                rw [Bool.and_eq_true] at hok
                have hk61 : Nat.testBit k 61 = false := by
                  cases hb : Nat.testBit k 61
                  · rfl
                  · rw [hb] at hok
                    cases hok.1
                rw [ClW_eq hk61]
                exact chain_pair hch hk61 ho hpj hgd hok.2 (by rw [hready]; exact List.cons_ne_nil _ _) h H
              · cases h
        · cases h
end
end Go.Proofs.Ytngcbpcfgolifaa.Ev
