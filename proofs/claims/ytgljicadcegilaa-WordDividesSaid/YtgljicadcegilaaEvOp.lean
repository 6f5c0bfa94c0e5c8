/- An operation that is no call of a Go function: sound, all kinds together. -/
import Derived.Test.YtgljicadcegilaaEvStep3
namespace Go.Proofs.Ytgljicadcegilaa.Ev
open Go.RowKit
set_option linter.unusedVariables false
set_option linter.unusedSimpArgs false
section
variable {P : Program} {ρ : List Nat} {w0 w : World} {own : List Nat} {s : St DC} {a : Act}

theorem does_pure {o : Oper} {t : T DC (AV DC)} {z : AV DC × List (W DC)} (H : WR w0 own ρ s.heap w) (h : (pureT t).pick = some z) {sem : Sem Value}
    (he : execOp a.eval o = (do pure (.value (← sem)) : Sem Next)) (hs : ∀ v, t.pick = some v → ∃ r, sem.run P w = .ok r w ∧ VRel ρ v r) : Does P w0 own ρ s a w o z := by
  obtain ⟨h1, h2⟩ := pure_some h
  obtain ⟨r, h3, h4⟩ := hs _ h1
  obtain ⟨v, l⟩ := z
  exact does_same H h2 ⟨r, by rw [he]; simp [h3], h4⟩

theorem does_value {o : Oper} {z : AV DC × List (W DC)} (H : WR w0 own ρ s.heap w) {sem : Sem Value}
    (he : execOp a.eval o = (do pure (.value (← sem)) : Sem Next)) (hz : z.2 = [] ∧ ∃ r, sem.run P w = .ok r w ∧ VRel ρ z.1 r) : Does P w0 own ρ s a w o z := by
  obtain ⟨v, l⟩ := z
  obtain ⟨h1, r, h2, h3⟩ := hz
  exact does_same H h1 ⟨r, by rw [he]; simp [h2], h3⟩

theorem does_new {o : Oper} {e : TypeId} {cs : List (AV DC)} {vs : Array Value} (H : WR w0 own ρ s.heap w) (hv : VRels ρ cs vs.toList)
    (he : (execOp a.eval o).run P w = .ok (.value (.pointer (some ⟨w.heap.size, 0, none⟩))) (w.alloc (.cells vs e (0, 0)))) :
    Does P w0 own ρ s a w o (.ptr s.heap.length (.lit 0), [.new (.cells e cs)]) := by
  refine ⟨_, _, ρ ++ [w.heap.size], .inl he, Ext.push _ _, ⟨w.heap.size, ?_, rfl⟩, ?_, rfl, fun e => by cases e⟩
  · rw [← H.len, List.getElem?_append_right (Nat.le_refl _)]
    simp
  · exact H.alloc hv

theorem boxA_rel {x : AV DC} (hd : x ≠ .dead) {v : Value} (h : VRel ρ x v) : VRels ρ x.cellsA v.cells.toList := cells_rel h hd

theorem opA_sound (hS : RS ρ s.slots a) (H : WR w0 own ρ s.heap w) {o : Oper} {z : AV DC × List (W DC)} (h : (opA P o s).pick = some z) : Does P w0 own ρ s a w o z := by
  have hr := evalA_rel hS
  have hrs := evalA_map hS
  obtain ⟨dst, op, type, pos, after, guard⟩ := o
  cases op <;> first | (cases h; done) | skip
  case move x =>
    have := T.ret_some h
    subst this
    exact Does.same H rfl (hr x)
  case assign x =>
    have := T.ret_some h
    subst this
    exact Does.same H rfl (hr x)
  case pick c x y =>
    simp only [opA] at h
    have hc := hr c
    have key : ∀ (b : Bool) (m : AV DC), a.eval c = .bool b → VRel ρ m (if b then a.eval x else a.eval y) → Does P w0 own ρ s a w ⟨dst, .pick c x y, type, pos, after, guard⟩ (m, []) := fun b m hb hm =>
      Does.same H (by simp [execOp, hb, asBool]) hm
    cases hcv : evalA s.slots c <;> rw [hcv] at h hc <;> (try simp only [] at h) <;> first | (cases h; done) | skip
    rename_i ab
    cases ab with
    | lit b =>
      cases b <;> simp only [] at h <;> (have := T.ret_some h; subst this)
      · exact key false _ hc (hr y)
      · exact key true _ hc (hr x)
    | sym b =>
      simp only [] at h
      have hbr : (T.br (D := DC) b (.ret (evalA s.slots x, [])) (.ret (evalA s.slots y, []))).pick = some z → Does P w0 own ρ s a w ⟨dst, .pick c x y, type, pos, after, guard⟩ z := fun h => by
        rcases T.br_some h with ⟨h1, h2⟩ | ⟨h1, h2⟩ <;> (have := T.ret_some h2; subst this)
        · exact key true _ (by rw [hc]; exact congrArg Value.bool h1) (hr x)
        · exact key false _ (by rw [hc]; exact congrArg Value.bool h1) (hr y)
      split at h
      · exact hbr h
      · rename_i m hne hm
        have := T.ret_some h
        subst this
        refine key b m hc (mergeV_rel hm ?_)
        cases hb : (b : Bool)
        · exact hr y
        · exact hr x
      · exact hbr h
  case alloc e =>
    simp only [opA] at h
    cases hz : (zeroT P e : Option (AV DC)) with
    | none => rw [hz] at h; cases h
    | some v0 =>
      rw [hz] at h
      simp only [] at h
      split at h
      · rename_i hl
        have := T.ret_some h
        subst this
        obtain ⟨v, hv, e0⟩ := run_zeroT (P := P) hz w
        refine does_new H (zero_cells e0 hl) ?_
        simp [execOp, Instr.alloc, hv, newVar, newRow]
      · cases h
  case box e x =>
    simp only [opA] at h
    have hx := hr x
    generalize evalA s.slots x = X at *
    have hd : X ≠ .dead := by rintro rfl; cases h
    have h' : z = (.ptr s.heap.length (.lit 0), [.new (.cells e X.cellsA)]) := by
      cases X <;> first | exact absurd rfl hd | exact (T.ret_some h).symm
    subst h'
    refine does_new H (cells_rel hx hd) ?_
    simp [execOp, Instr.box, newVar, newRow]
  case build t ps =>
    refine does_pure H h (sem := Instr.build t (ps.map fun p => (p.1, a.eval p.2))) rfl fun v hv => ?_
    have := buildA_sound (P := P) (w := w) (qs := ps.toList.map fun p => (p.1, a.eval p.2)) hv (by simp [Function.comp_def]) (by
      have := hrs (ps.toList.map (·.2))
      simpa [Function.comp_def] using this)
    obtain ⟨r, h1, h2⟩ := this
    refine ⟨r, ?_, h2⟩
    rw [← h1]
    congr 2
    apply Array.ext'
    simp
  case load t x =>
    simp only [opA] at h
    have hx := hr x
    generalize evalA s.slots x = X at *
    cases X <;> (try simp only [] at h) <;> first | (cases h; done) | skip
    rename_i b off
    obtain ⟨r, hr', hx⟩ := hx
    have he : execOp a.eval ⟨dst, .load t x, type, pos, after, guard⟩ = (do pure (.value (← loadVar t ⟨r, off.den, none⟩)) : Sem Next) := by
      simp only [execOp, hx, Instr.loadAt, Instr.sureAddr, pure_bind]
    cases hl : loadA P s.heap t b off with
    | none =>
      rw [hl] at h
      exact does_value H he (loadRow_sound H h hr')
    | some v =>
      rw [hl] at h
      have := T.ret_some h
      subst this
      exact does_value H he ⟨rfl, run_loadVar_rel H hl hr'⟩
  case store t x y =>
    simp only [opA] at h
    have hx := hr x
    generalize evalA s.slots x = X at *
    cases X <;> (try simp only [] at h) <;> first | (cases h; done) | skip
    rename_i b off
    obtain ⟨r, hr', hx⟩ := hx
    cases hl : storeA P s.heap t b off (evalA s.slots y) with
    | none => rw [hl] at h; cases h
    | some l =>
      rw [hl] at h
      have := T.ret_some h
      subst this
      have he : execOp a.eval ⟨dst, .store t x y, type, pos, after, guard⟩ = (do storeVar t ⟨r, off.den, none⟩ (a.eval y); pure .skip : Sem Next) := by
        simp only [execOp, hx, Instr.storeAt, Instr.sureAddr, pure_bind]
      obtain ⟨w', h1 | h1⟩ := run_storeVar_rel (P := P) H hl hr' (hr y)
      · refine ⟨Go.undef, w', ρ, .inr ⟨by rw [he]; simp [h1.1], rfl⟩, Ext.refl _, rfl, h1.2.1, h1.2.2.1, fun e => absurd e h1.2.2.2⟩
      · obtain ⟨h1, h2⟩ := h1
        subst h2
        exact ⟨Go.undef, w, ρ, .inr ⟨by rw [he]; simp [h1], rfl⟩, Ext.refl _, rfl, H, rfl, fun _ => ⟨rfl, rfl⟩⟩
  case nilCheck x =>
    simp only [opA] at h
    have hx := hr x
    generalize evalA s.slots x = X at *
    cases X <;> (try simp only [] at h) <;> first | (cases h; done) | skip
    have := T.ret_some h
    subst this
    obtain ⟨r, hr', hx⟩ := hx
    exact Does.same H (v := a.eval x) (by simp [execOp, hx]) ⟨r, hr', hx⟩
  case binOp op t x y yt =>
    exact does_pure H h (sem := do eqGuard op t x y (a.eval x) (a.eval y); binOp op t (a.eval x) (a.eval y)) rfl fun v hv => binA_sound hv (hr x) (hr y)
  case unOp op t x => exact does_pure H h (sem := Op.unary op (a.eval x)) rfl fun v hv => unA_sound hv (hr x)
  case convert p q x => exact does_pure H h (sem := convert p q (a.eval x)) rfl fun v hv => convA_sound hv (hr x)
  case makeFunc fn first captured =>
    have := T.ret_some h
    subst this
    exact Does.same H (v := .func fn (first.map a.eval) (captured.map a.eval)) (by simp [execOp, Instr.makeFunc]) ⟨_, _, rfl, by simpa using hrs first.toList, by simpa using hrs captured.toList⟩
  case fieldAddr t x i => exact does_pure H h (sem := Instr.fieldAt t (a.eval x) i) rfl fun v hv => fieldAddrA_sound hv (hr x)
  case field t x i => exact does_pure H h (sem := Instr.field t (a.eval x) i) rfl fun v hv => fieldA_sound hv (hr x)
  case indexAddr t x i => exact does_value H (sem := Instr.indexAt t (a.eval x) (a.eval i)) rfl (indexAddrA_sound (h := s.heap) h (hr x) (hr i))
  case index t x i => exact does_value H (sem := Instr.index t (a.eval x) (a.eval i)) rfl (indexA_sound h (hr x) (hr i))
  case extract x i =>
    simp only [opA] at h
    have hx := hr x
    generalize evalA s.slots x = X at *
    cases X <;> (try simp only [] at h) <;> first | (cases h; done) | skip
    rename_i vs
    obtain ⟨us, hx, hv⟩ := hx
    cases hi : vs[i]? with
    | none => rw [hi] at h; cases h
    | some y =>
      rw [hi] at h
      have := T.ret_some h
      subst this
      obtain ⟨u, h1, h2⟩ := hv.get hi
      have h1' : us[i]? = some u := by simpa using h1
      exact Does.same H (v := u) (by simp [execOp, Instr.extract, hx, h1']) h2
  case call c =>
    obtain ⟨cal, args, argTypes⟩ := c
    cases cal with
    | value f => cases h
    | invoke r m => cases h
    | builtin b =>
      have hargs : VRels ρ (args.toList.map (evalA s.slots)) (args.map a.eval).toList := by simpa using hrs args.toList
      cases b <;> first | (cases h; done) | skip
      case len =>
        refine does_pure H h (sem := Builtin.len_ argTypes type (args.map a.eval)) ?_ fun v hv => lenA_sound hv hargs
        simp [execOp, resolve, invoke, builtin]
      case min =>
        simp only [opA] at h
        cases hl : args.toList.map (evalA s.slots) with
        | nil => rw [hl] at h; cases h
        | cons x l =>
          rw [hl] at h hargs
          obtain ⟨u, us, e, hu, hus⟩ := hargs
          refine does_pure H h (sem := Builtin.min_ argTypes type (args.map a.eval)) (by simp [execOp, resolve, invoke, builtin]) fun v hv => ?_
          obtain ⟨r, h1, h2⟩ := min_run (P := P) (w := w) false l us x v u hv hu hus
          exact ⟨r, by rw [Builtin.min_, e]; exact h1, h2⟩
      case max =>
        simp only [opA] at h
        cases hl : args.toList.map (evalA s.slots) with
        | nil => rw [hl] at h; cases h
        | cons x l =>
          rw [hl] at h hargs
          obtain ⟨u, us, e, hu, hus⟩ := hargs
          refine does_pure H h (sem := Builtin.max_ argTypes type (args.map a.eval)) (by simp [execOp, resolve, invoke, builtin]) fun v hv => ?_
          obtain ⟨r, h1, h2⟩ := min_run (P := P) (w := w) true l us x v u hv hu hus
          exact ⟨r, by rw [Builtin.max_, e]; exact h1, h2⟩
end
end Go.Proofs.Ytgljicadcegilaa.Ev
