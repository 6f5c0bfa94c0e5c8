/- The evaluator is sound: regions and calls, and all together. -/
import Derived.Test.YtngcbpcfgolifaaEvMain
namespace Go.Proofs.Ytngcbpcfgolifaa.Ev
open Go.RowKit
set_option linter.unusedVariables false
set_option linter.unusedSimpArgs false
section
variable {P : Program} {X : Cx DC} {w0 : World} {own : List Nat}

theorem ops_run {n : Nat} (ho : OpsOk P X w0 own n) {base : FuncId} {all : Array Oper} {o : Oper} {todo : List Oper} {s : St DC} {ρ ρ' : List Rb} {a : Act} {w' : World} {v : AV DC} {l : List (W DC)} {u : Value} {r : Ex DC × List (W DC)}
    (h : (behind (l ++ putW o.dst v) (ev P X base n (.ops all todo) (s.apps (l ++ putW o.dst v)))).pick = some r) (hS : RS ρ s.slots a) (hx : Ext ρ ρ') (hv : VRel ρ' v u) (hH : WR w0 own ρ' (s.apps l).heap w') (hs : (s.apps l).slots = s.slots) :
    wpList P all (CodePost w0 own ρ s r) todo (a.put o.dst u) w' := by
  obtain ⟨q, h1, h2⟩ := T.bind_some h
  have := T.ret_some h2
  subst this
  have := ho _ _ _ _ _ h1 ρ' (a.put o.dst u) w' (SR.put (w := w') hS hx hv hH hs)
  exact wpList_mono (fun e a w hg => Good.before hx hg) todo _ _ this

theorem heapW_none : ∀ (l : List (W DC)) (s : St DC), (s.apps (heapW l)).slots = s.slots
  | [], _ => rfl
  | .slot _ _ :: l, s => heapW_none l s
  | .cell _ _ _ :: l, s => heapW_none l (s.app (.cell _ _ _))
  | .new _ :: l, s => heapW_none l (s.app (.new _))
  | .obj _ _ :: l, s => heapW_none l (s.app (.obj _ _))
theorem heapW_heap : ∀ (l : List (W DC)) (s s' : St DC), s.heap = s'.heap → (s.apps (heapW l)).heap = (s'.apps l).heap
  | [], _, _, h => h
  | .slot d v :: l, s, s', h => heapW_heap l s (s'.app (.slot d v)) h
  | .cell b i v :: l, s, s', h => heapW_heap l _ _ (by simp [St.app, h])
  | .new o :: l, s, s', h => heapW_heap l _ _ (by simp [St.app, h])
  | .obj b o :: l, s, s', h => heapW_heap l _ _ (by simp [St.app, h])


theorem wanted_none {all : Array Oper} {o : Oper} {a : Act} (h : o.guard = none) : Region.wanted o (yielded all a.tmps) = true := by simp [Region.wanted, h]
theorem wanted_some {all : Array Oper} {o : Oper} {a : Act} {j : Nat} {want : Bool} (h : o.guard = some (j, want)) : Region.wanted o (yielded all a.tmps) = (yielded all a.tmps j == some want) := by simp [Region.wanted, h]

theorem call_body (hX : Ok P X) {n : Nat} {f : FuncId} {args : List (AV DC)} {h : List (AO DC)} {r : Ex DC × List (W DC)} (hc : (call P X n f args h).pick = some r) : ∃ fn, P.funcs[f]? = some fn ∧ fn.body.isNone = false := by
  cases n with
  | zero => simp [call, T.pick] at hc
  | succ n =>
    simp only [call] at hc
    cases hs : X.sums f args h with
    | some t => exact hX.bodies f args h t hs
    | none =>
      rw [hs] at hc
      simp only [] at hc
      cases hf : P.funcs[f]? with
      | none => rw [hf] at hc; cases hc
      | some fn =>
        rw [hf] at hc
        simp only [] at hc
        cases hb : fn.body with
        | none => rw [hb] at hc; cases hc
        | some c => exact ⟨fn, rfl, by simp [hb]⟩

theorem ops_succ (hX : Ok P X) {n : Nat} (ho : OpsOk P X w0 own n) (hc : CallOk P X w0 own n) : OpsOk P X w0 own (n + 1) := by
  intro base all todo s r h ρ a w H
  cases todo with
  | nil =>
    simp only [ev] at h
    have := T.ret_some h
    subst this
    exact ⟨ρ, Ext.refl _, trivial, H⟩
  | cons o todo =>
    have run : (runOp P X o s (fun l => l) (fun f args => call P X n f args s.heap) fun r => behind (r.2 ++ putW o.dst r.1) (ev P X base n (.ops all todo) (s.apps (r.2 ++ putW o.dst r.1)))).pick = some r → o.wp P a w (wpList P all (CodePost w0 own ρ s r) todo) (CodePost w0 own ρ s r) := by
      intro h
      unfold runOp at h
      cases hcal : callee? o s with
      | none =>
        rw [hcal] at h
        simp only [] at h
        cases hox : X.opx o s with
        | some t =>
          rw [hox] at h
          obtain ⟨z, h1, h2⟩ := T.bind_some h
          obtain ⟨v, w', ρ', g1, g2, g3, g4, g5, _⟩ := hX.opx o s t z hox h1 w0 own ρ a w H.1 H.2
          exact g1.wp (ops_run ho h2 H.1 g2 g3 g4 g5)
        | none =>
          rw [hox] at h
          obtain ⟨z, h1, h2⟩ := T.bind_some h
          obtain ⟨v, w', ρ', g1, g2, g3, g4, g5, _⟩ := opA_sound H.1 H.2 h1
          exact g1.wp (ops_run ho h2 H.1 g2 g3 g4 g5)
      | some fa =>
        obtain ⟨f, args⟩ := fa
        rw [hcal] at h
        obtain ⟨vals, he, hv⟩ := callee_spec H.1 hcal
        simp only [] at h
        cases hk : X.ext f with
        | some k =>
          rw [hk] at h
          obtain ⟨z, h1, h2⟩ := T.bind_some h
          obtain ⟨v, w', ρ', g1, g2, g3, g4, g5, _⟩ := extA_sound hX H.2 hk he hv h1
          exact g1.wp (ops_run ho h2 H.1 g2 g3 g4 g5)
        | none =>
          rw [hk] at h
          obtain ⟨z, h1, h2⟩ := T.bind_some h
          obtain ⟨z1, z2⟩ := z
          cases z1 <;> first | (cases h2; done) | skip
          rename_i v
          simp only [] at h2
          have hcall := hc _ _ _ _ h1 ρ w vals.toList H.2 hv
          simp only [Array.toArray_toList] at hcall
          unfold Oper.wp
          obtain ⟨fn, hf, hb⟩ := call_body hX h1
          rw [he, run_callFunc hX hf hb, Oper.upon_enter]
          refine hcall.mono fun e w' hp => ?_
          obtain ⟨u, v', ρ', e1, e2, g2, g3, g4⟩ := hp
          cases e1
          subst e2
          exact ops_run ho h2 H.1 g2 g3 (by rw [heapW_heap z2 s { slots := [], heap := s.heap } rfl]; exact g4) (heapW_none z2 s)
    have skip : (behind (putW o.dst .undef) (ev P X base n (.ops all todo) (s.apps (putW o.dst .undef)))).pick = some r → wpList P all (CodePost w0 own ρ s r) todo (a.put o.dst Go.undef) w := by
      intro h
      exact ops_run (l := []) ho h H.1 (Ext.refl _) (u := Go.undef) rfl H.2 rfl
    unfold wpList
    simp only [ev, guardT] at h
    cases hg : o.guard with
    | none =>
      rw [hg] at h
      rw [if_pos (wanted_none hg)]
      exact .inl (run h)
    | some jw =>
      obtain ⟨j, want⟩ := jw
      rw [hg] at h
      simp only [] at h
      rw [wanted_some hg]
      cases hd : slotOf all j with
      | none => rw [hd] at h; cases h
      | some d =>
        rw [hd] at h
        simp only [] at h
        cases hs : s.slots.getD d .dead <;> rw [hs] at h <;> (try simp only [] at h) <;> first | (cases h; done) | skip
        · rw [yielded_undef H.1 hd hs]
          rw [if_neg (by simp)]
          exact skip h
        · rename_i ab
          rw [yielded_lit H.1 hd hs]
          cases ab with
          | lit b =>
            simp only [] at h
            split at h
            · rename_i hb
              have hb' : b = want := by simpa using hb
              rw [if_pos (by simp [AB.den, hb'])]
              exact .inl (run h)
            · rename_i hb
              have hb' : ¬ b = want := by simpa using hb
              rw [if_neg (by simp [AB.den, hb'])]
              exact skip h
          | sym b =>
            simp only [] at h
            have fork : ∀ b', b = b' → (behind [.slot d (.bool (.lit b'))] (ev P X base n (.ops all (o :: todo)) (s.app (.slot d (.bool (.lit b')))))).pick = some r → wpList P all (CodePost w0 own ρ s r) (o :: todo) a w := by
              intro b' hb h
              obtain ⟨q, h1, h2⟩ := T.bind_some h
              have := T.ret_some h2
              subst this
              have := ho _ _ _ _ _ h1 ρ a w (H.known hs hb)
              exact wpList_mono (fun e a w hg => Good.before (l := [.slot d (.bool (.lit b'))]) (Ext.refl _) hg) _ _ _ this
            have hw : wpList P all (CodePost w0 own ρ s r) (o :: todo) a w := by
              rcases T.br_some h with ⟨h1, h2⟩ | ⟨h1, h2⟩
              · exact fork true h1 h2
              · exact fork false h1 h2
            unfold wpList at hw
            rw [wanted_some hg, yielded_lit H.1 hd hs] at hw
            exact hw

theorem onlyNew_nil {l : List (W DC)} (h : noHeap (onlyNew l) = true) : l.all isNew = true := by
  unfold onlyNew at h
  split at h
  · assumption
  · cases l with
    | nil => rfl
    | cons x l => cases h
theorem news_heap : ∀ (l : List (W DC)) (s : St DC), l.all isNew = true → ∃ t, (s.apps l).heap = s.heap ++ t
  | [], s, _ => ⟨[], by simp [St.apps]⟩
  | .new o :: l, s, h => by
    simp only [List.all_cons, isNew, Bool.true_and] at h
    obtain ⟨t, ht⟩ := news_heap l (s.app (.new o)) h
    exact ⟨o :: t, by rw [St.apps, ht]; simp [St.app]⟩
  | .slot _ _ :: l, s, h => by simp [isNew] at h
  | .cell _ _ _ :: l, s, h => by simp [isNew] at h
  | .obj _ _ :: l, s, h => by simp [isNew] at h

theorem WR.old {ρ ρ' : List Rb} {h t : List (AO DC)} {w : World} (H : WR w0 own ρ' (h ++ t) w) (hx : Ext ρ ρ') (hl : ρ.length = h.length) {w1 : World} (H1 : WR w0 own ρ h w1) : WR w0 own ρ h w := by
  have hold : ∀ {i : Nat} {o : AO DC}, h[i]? = some o → (h ++ t)[i]? = some o := fun {i o} ho => by
    rw [List.getElem?_append_left (List.getElem?_eq_some_iff.1 ho).1]; exact ho
  refine H.less hx hl (fun i o ho hol => ⟨o, hold ho, hol⟩) (fun i o ho hol => ⟨o, hold ho, hol⟩) (fun i r o ho hm hi => H.new _ _ _ (hold ho) hm (hx _ _ hi)) fun i o r ho hi => ?_
  have h1 := H.obj _ _ _ (hold ho) (hx _ _ hi)
  have h0 := H1.obj _ _ _ ho hi
  cases o with
  | gone => trivial
  | rows t' n fs => exact h1
  | arr t' n fs => exact h1
  | cells t' cs =>
    obtain ⟨vs, e, hs, hv⟩ := h1
    obtain ⟨vs0, _, _, hv0⟩ := h0
    exact ⟨vs, e, hs, hv.back hx _ _ _ hv0⟩
  | map ks xs =>
    obtain ⟨es, cl, e, h2, h3⟩ := h1
    obtain ⟨es0, cl0, _, k1, k2⟩ := h0
    exact ⟨es, cl, e, h2.back hx _ _ _ k1, h3.back hx _ _ _ k2⟩

theorem Oper.quiet_mono' {o : Oper} {a : Act} {C : World → Prop} {K K' : Act → Prop} (h : ∀ a, K a → K' a) (hh : o.quiet P a C K) : o.quiet P a C K' := Oper.quiet_mono h hh
theorem quiet_next {n : Nat} (hq : QuietOk P X w0 own n) {base : FuncId} {all : Array Oper} {o : Oper} {todo : List Oper} {s : St DC} {ρ : List Rb} {a : Act} {v : AV DC} {u : Value} {r : Ex DC × List (W DC)}
    (h : (behind (putW o.dst v) (ev P X base n (.quiet all todo) (s.apps (putW o.dst v)))).pick = some r) (hS : RS ρ s.slots a) (hl : ρ.length = s.heap.length) (hex : ∃ w, WR w0 own ρ s.heap w) (hv : VRel ρ v u) :
    wpQuiet P all (WR w0 own ρ s.heap) (fun a' => ∀ w', WR w0 own ρ s.heap w' → CodePost w0 own ρ s r .normal a' w') todo (a.put o.dst u) := by
  obtain ⟨q, h1, h2⟩ := T.bind_some h
  have := T.ret_some h2
  subst this
  have hheap : (s.apps (putW o.dst v)).heap = s.heap := by cases o.dst <;> rfl
  have hS' : RS ρ (s.apps (putW o.dst v)).slots (a.put o.dst u) := by
    cases hd : o.dst with
    | none => exact hS
    | some d => exact hS.put hv
  have := hq _ _ _ _ _ h1 ρ (a.put o.dst u) hS' (by rw [hheap]; exact hl) (by rw [hheap]; exact hex)
  rw [hheap] at this
  exact wpQuiet_mono (fun a' hg w' hw' => Good.before (Ext.refl _) (hg w' hw')) todo _ this

theorem movedO_call {o : Oper} {s : St DC} {fa : FuncId × List (AV DC)} (h : callee? o s = some fa) : movedO o = false := by
  unfold callee? at h
  unfold movedO
  split at h
  · rename_i c hop
    rw [hop]
  · cases h
theorem quiet_succ (hX : Ok P X) {n : Nat} (hq : QuietOk P X w0 own n) (hc : CallOk P X w0 own n) : QuietOk P X w0 own (n + 1) := by
  intro base all todo s r h ρ a hS hl hex
  cases todo with
  | nil =>
    simp only [ev] at h
    have := T.ret_some h
    subst this
    exact fun w' hw' => ⟨ρ, Ext.refl _, trivial, hS, hw'⟩
  | cons o todo =>
    have run : (runOp P X o s onlyNew (fun f args => call P X n f args s.heap) fun r => quietOnly (movedO o) s r (behind (putW o.dst r.1) (ev P X base n (.quiet all todo) (s.apps (putW o.dst r.1))))).pick = some r → (∃ w, WR w0 own ρ s.heap w) →
        o.quiet P a (WR w0 own ρ s.heap) (wpQuiet P all (WR w0 own ρ s.heap) (fun a' => ∀ w', WR w0 own ρ s.heap w' → CodePost w0 own ρ s r .normal a' w') todo) := by
      intro h hw
      unfold runOp at h
      have fin : ∀ z : AV DC × List (W DC), (quietOnly (movedO o) s z (behind (putW o.dst z.1) (ev P X base n (.quiet all todo) (s.apps (putW o.dst z.1))))).pick = some r → ((z.1.solid s.heap.length || movedO o) = true → z.2 = [] → ∃ u, ∀ w, WR w0 own ρ s.heap w → o.quietAt P a (WR w0 own ρ s.heap) w u ∧ VRel ρ z.1 u) →
          o.quiet P a (WR w0 own ρ s.heap) (wpQuiet P all (WR w0 own ρ s.heap) (fun a' => ∀ w', WR w0 own ρ s.heap w' → CodePost w0 own ρ s r .normal a' w') todo) := by
        intro z hz hat
        unfold quietOnly at hz
        split at hz
        · rename_i hcnd
          simp only [Bool.and_eq_true] at hcnd
          have hnil : z.2 = [] := by
            cases hz2 : z.2 with
            | nil => rfl
            | cons x l => rw [hz2] at hcnd; cases hcnd.2
          obtain ⟨w, hw⟩ := hw
          obtain ⟨u, hu⟩ := hat hcnd.1 hnil
          exact ⟨u, fun w hw => (hu w hw).1, quiet_next hq hz hS hl hex (hu w hw).2⟩
        · cases hz
      have same : ∀ (z : AV DC × List (W DC)), (z.1.solid s.heap.length || movedO o) = true → z.2 = [] → (∀ w, WR w0 own ρ s.heap w → Does P w0 own ρ s a w o z) → ∃ u, ∀ w, WR w0 own ρ s.heap w → o.quietAt P a (WR w0 own ρ s.heap) w u ∧ VRel ρ z.1 u := by
        intro z hs hz hd
        rcases Bool.or_eq_true _ _ |>.mp hs with hs | hs
        · refine ⟨den ρ z.1, fun w hw => ?_⟩
          obtain ⟨v, w', ρ', g1, g2, g3, g4, g5, g6⟩ := hd w hw
          obtain ⟨rfl, rfl⟩ := g6 hz
          have hv := den_only hs g3
          subst hv
          refine ⟨?_, g3⟩
          unfold Oper.quietAt
          rcases g1 with g1 | ⟨g1, e⟩
          · rw [g1]; exact ⟨rfl, rfl⟩
          · rw [g1]; exact ⟨rfl, e⟩
        · obtain ⟨x, hx⟩ : ∃ x, ∀ w, (execOp a.eval o).run P w = .ok (.value (a.eval x)) w := by
            unfold movedO at hs
            split at hs
            · rename_i x hop; exact ⟨x, fun w => by simp [execOp, hop]⟩
            · rename_i x hop; exact ⟨x, fun w => by simp [execOp, hop]⟩
            · cases hs
          refine ⟨a.eval x, fun w hw => ?_⟩
          obtain ⟨v, w', ρ', g1, g2, g3, g4, g5, g6⟩ := hd w hw
          obtain ⟨rfl, rfl⟩ := g6 hz
          have hv : v = a.eval x := by
            rcases g1 with g1 | ⟨g1, e⟩
            · rw [hx] at g1; cases g1; rfl
            · rw [hx] at g1; cases g1
          subst hv
          refine ⟨?_, g3⟩
          unfold Oper.quietAt
          rw [hx]
          exact ⟨rfl, rfl⟩
      cases hcal : callee? o s with
      | none =>
        rw [hcal] at h
        simp only [] at h
        cases hox : X.opx o s with
        | some t =>
          rw [hox] at h
          obtain ⟨z, h1, h2⟩ := T.bind_some h
          exact fin z h2 fun hs hz => same z hs hz fun w hw => hX.opx o s t z hox h1 w0 own ρ a w hS hw
        | none =>
          rw [hox] at h
          obtain ⟨z, h1, h2⟩ := T.bind_some h
          exact fin z h2 fun hs hz => same z hs hz fun w hw => opA_sound hS hw h1
      | some fa =>
        obtain ⟨f, args⟩ := fa
        rw [hcal] at h
        obtain ⟨vals, he, hv⟩ := callee_spec hS hcal
        simp only [] at h
        cases hk : X.ext f with
        | some k =>
          rw [hk] at h
          obtain ⟨z, h1, h2⟩ := T.bind_some h
          exact fin z h2 fun hs hz => same z hs hz fun w hw => extA_sound hX hw hk he hv h1
        | none =>
          rw [hk] at h
          obtain ⟨z, h1, h2⟩ := T.bind_some h
          obtain ⟨z1, z2⟩ := z
          cases z1 <;> first | (cases h2; done) | skip
          rename_i v
          simp only [] at h2
          obtain ⟨fn, hf, hb⟩ := call_body hX h1
          unfold quietOnly at h2
          rw [movedO_call hcal, Bool.or_false] at h2
          split at h2
          · rename_i hcnd
            simp only [Bool.and_eq_true] at hcnd
            have hnew := onlyNew_nil hcnd.2
            have hcallw : ∀ w, WR w0 own ρ s.heap w → Calls P f vals w fun e w'' => e = .returned (den ρ v) ∧ VRel ρ v (den ρ v) ∧ WR w0 own ρ s.heap w'' := by
              intro w hw
              have hcall := hc _ _ _ _ h1 ρ w vals.toList hw hv
              simp only [Array.toArray_toList] at hcall
              refine hcall.mono fun e w' hp => ?_
              obtain ⟨u, v', ρ', e1, e2, g2, g3, g4⟩ := hp
              cases e1
              have g3' := den_low hcnd.1 g2 hl g3
              have hu := den_only hcnd.1 g3'
              subst hu
              refine ⟨e2, g3', ?_⟩
              obtain ⟨t, ht⟩ := news_heap (heapW z2) s hnew
              rw [← heapW_heap z2 s { slots := [], heap := s.heap } rfl, ht] at g4
              exact g4.old g2 hl hw
            obtain ⟨w, hw⟩ := hw
            have hvr : VRel ρ v (den ρ v) := by
              obtain ⟨e, w', fr, ⟨_, h5, _⟩, _⟩ := hcallw w hw []
              exact h5
            refine ⟨den ρ v, fun w hw => ?_, quiet_next hq h2 hS hl hex hvr⟩
            unfold Oper.quietAt
            rw [he, run_callFunc hX hf hb]
            exact ⟨rfl, (hcallw w hw).mono fun e w'' h => ⟨h.1, h.2.2⟩⟩
          · cases h2
    have skip : (behind (putW o.dst .undef) (ev P X base n (.quiet all todo) (s.apps (putW o.dst .undef)))).pick = some r →
        wpQuiet P all (WR w0 own ρ s.heap) (fun a' => ∀ w', WR w0 own ρ s.heap w' → CodePost w0 own ρ s r .normal a' w') todo (a.put o.dst Go.undef) := fun h => quiet_next hq h hS hl hex rfl
    unfold wpQuiet
    simp only [ev, guardT] at h
    cases hg : o.guard with
    | none =>
      rw [hg] at h
      rw [if_pos (wanted_none hg)]
      exact run h hex
    | some jw =>
      obtain ⟨j, want⟩ := jw
      rw [hg] at h
      simp only [] at h
      rw [wanted_some hg]
      cases hd : slotOf all j with
      | none => rw [hd] at h; cases h
      | some d =>
        rw [hd] at h
        simp only [] at h
        cases hs : s.slots.getD d .dead <;> rw [hs] at h <;> (try simp only [] at h) <;> first | (cases h; done) | skip
        · rw [yielded_undef hS hd hs]
          rw [if_neg (by simp)]
          exact skip h
        · rename_i ab
          rw [yielded_lit hS hd hs]
          cases ab with
          | lit b =>
            simp only [] at h
            split at h
            · rename_i hb
              have hb' : b = want := by simpa using hb
              rw [if_pos (by simp [AB.den, hb'])]
              exact run h hex
            · rename_i hb
              have hb' : ¬ b = want := by simpa using hb
              rw [if_neg (by simp [AB.den, hb'])]
              exact skip h
          | sym b =>
            simp only [] at h
            have fork : ∀ b', b = b' → (behind [.slot d (.bool (.lit b'))] (ev P X base n (.quiet all (o :: todo)) (s.app (.slot d (.bool (.lit b')))))).pick = some r →
                wpQuiet P all (WR w0 own ρ s.heap) (fun a' => ∀ w', WR w0 own ρ s.heap w' → CodePost w0 own ρ s r .normal a' w') (o :: todo) a := by
              intro b' hb h
              obtain ⟨q, h1, h2⟩ := T.bind_some h
              have := T.ret_some h2
              subst this
              have hS' : RS ρ (s.app (.slot d (.bool (.lit b')))).slots a := hS.again fun _ => by
                have := hS.getD d
                rw [hs] at this
                subst hb
                exact this
              have := hq _ _ _ _ _ h1 ρ a hS' hl hex
              exact wpQuiet_mono (fun a' hg w' hw' => Good.before (l := [.slot d (.bool (.lit b'))]) (Ext.refl _) (hg w' hw')) _ _ this
            have hw : wpQuiet P all (WR w0 own ρ s.heap) (fun a' => ∀ w', WR w0 own ρ s.heap w' → CodePost w0 own ρ s r .normal a' w') (o :: todo) a := by
              rcases T.br_some h with ⟨h1, h2⟩ | ⟨h1, h2⟩
              · exact fork true h1 h2
              · exact fork false h1 h2
            unfold wpQuiet at hw
            rw [wanted_some hg, yielded_lit hS hd hs] at hw
            exact hw
end
end Go.Proofs.Ytngcbpcfgolifaa.Ev
