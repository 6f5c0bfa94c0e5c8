/- The evaluator is sound: the main induction. -/
import Derived.Scope
import Derived.Test.YtngcbpcfgolifaaEvMainB
import Derived.Test.YtngcbpcfgolifaaEvTail
import Derived.Test.YtngcbpcfgolifaaEvAside
namespace Go.Proofs.Ytngcbpcfgolifaa.Ev
open Go.RowKit
set_option linter.unusedVariables false
set_option linter.unusedSimpArgs false
section
variable {P : Program}
/-- What only makes new blocks. -/
def Old (w w' : World) : Prop := w.heap.size ≤ w'.heap.size ∧ ∀ b, b < w.heap.size → w'.heap[b]? = w.heap[b]?
def KO {α : Type} (P : Program) (m : Sem α) : Prop := ∀ w r w', m.run P w = .ok r w' → Old w w'
theorem Old.refl (w : World) : Old w w := ⟨Nat.le_refl _, fun _ _ => rfl⟩
theorem Old.trans {w w1 w2 : World} (h1 : Old w w1) (h2 : Old w1 w2) : Old w w2 := ⟨Nat.le_trans h1.1 h2.1, fun b hb => (h2.2 b (Nat.lt_of_lt_of_le hb h1.1)).trans (h1.2 b hb)⟩
theorem KO.bind {α β : Type} {m : Sem α} {f : α → Sem β} (hm : KO P m) (hf : ∀ x, KO P (f x)) : KO P (m >>= f) := by
  intro w r w' h
  rw [Sem.run_bind] at h
  cases h1 : m.run P w with
  | halt _ _ => rw [h1] at h; cases h
  | ok x w1 =>
    rw [h1] at h
    exact (hm _ _ _ h1).trans (hf x _ _ _ h)
theorem KO.pure {α : Type} (x : α) : KO P (pure x : Sem α) := by
  intro w r w' h
  rw [Sem.run_pure] at h
  cases h
  exact Old.refl _
theorem KO.stuck {α : Type} (s : String) : KO P (stuck s : Sem α) := by
  intro w r w' h
  cases h
theorem KO.unsup {α : Type} (c) : KO P (unsupported c : Sem α) := by
  intro w r w' h
  cases h
theorem KO.prog : KO P program := by
  intro w r w' h
  rw [run_program] at h
  cases h
  exact Old.refl _
theorem ko_info (t : TypeId) : KO P (typeInfo t) := by
  unfold typeInfo
  refine KO.bind KO.prog fun p => ?_
  split
  · exact KO.pure _
  · exact KO.stuck _
theorem ko_und (t : TypeId) : KO P (underlying t) := by
  unfold underlying
  refine KO.bind KO.prog fun p => ?_
  split
  · exact KO.pure _
  · exact KO.stuck _
theorem ko_zero (t : TypeId) : KO P (zeroValue t) := by
  unfold zeroValue
  refine KO.bind (ko_info t) fun p => ?_
  split
  · exact KO.pure _
  · exact KO.unsup _
theorem ko_new (o : Obj) : KO P (newObj o) := by
  intro w r w' h
  have e : (newObj o).run P w = .ok w.heap.size (w.alloc o) := rfl
  rw [e] at h
  cases h
  exact ⟨by simp, fun b hb => heap_alloc_old w _ hb⟩
theorem ko_row (t : TypeId) (c : Array Value) : KO P (newRow t c) := by
  unfold newRow
  exact KO.bind (ko_new _) fun _ => KO.pure _
theorem ko_build (t : TypeId) (n : Nat) (parts : Array (Nat × Value)) : KO P (Instr.buildSlice t n parts) := by
  unfold Instr.buildSlice
  refine KO.bind (ko_und t) fun d => ?_
  split
  · rename_i elem
    refine KO.bind (KO.bind (ko_info _) fun _ => KO.pure _) fun sz => ?_
    have last : ∀ (z : Array Value), KO P (match Instr.fill (fun i => some (i * sz, sz)) (Array.map (fun x => z[x % z.size]!) (Array.range (n * sz))) parts.toList with
        | some cells => do
          let a ← newRow elem cells
          Pure.pure (Value.slice (some a) n n)
        | x => stuck "buildSlice: a part of the wrong size" : Sem Value) := fun z => by
      split
      · exact KO.bind (ko_row _ _) fun _ => KO.pure _
      · exact KO.stuck _
    have mid : KO P (if n * sz = 0 then do
        let zero ← Pure.pure #[]
        (fun (z : Array Value) => (match Instr.fill (fun i => some (i * sz, sz)) (Array.map (fun x => z[x % z.size]!) (Array.range (n * sz))) parts.toList with
        | some cells => do
          let a ← newRow elem cells
          Pure.pure (Value.slice (some a) n n)
        | x => stuck "buildSlice: a part of the wrong size" : Sem Value)) zero
      else do
        let z0 ← zeroValue elem
        let zero ← Pure.pure z0.cells
        (fun (z : Array Value) => (match Instr.fill (fun i => some (i * sz, sz)) (Array.map (fun x => z[x % z.size]!) (Array.range (n * sz))) parts.toList with
        | some cells => do
          let a ← newRow elem cells
          Pure.pure (Value.slice (some a) n n)
        | x => stuck "buildSlice: a part of the wrong size" : Sem Value)) zero) := by
      split
      · exact KO.bind (KO.pure _) last
      · exact KO.bind (ko_zero _) fun _ => KO.bind (KO.pure _) last
    dsimp only
    split
    · exact KO.bind (KO.unsup _) fun _ => mid
    · exact mid
  · exact KO.stuck _
theorem fresh_keeps {o : Oper} {a : Act} {w w' : World} {v : Value} (hf : freshO o = true) (h : Runs P a o w v w') : Old w w' := by
  unfold freshO at hf
  split at hf
  · rename_i t n parts hop
    have ho : ∃ (m : Sem Value), execOp a.eval o = (m >>= fun v => Pure.pure (.value v)) ∧ KO P m := ⟨_, by simp only [execOp, hop]; rfl, ko_build t n _⟩
    obtain ⟨m, e, hm⟩ := ho
    have hk : KO P (execOp a.eval o) := by rw [e]; exact KO.bind hm fun _ => KO.pure _
    rcases h with h | ⟨h, _⟩
    · exact hk _ _ _ h
    · exact hk _ _ _ h
  · cases hf
end
section
variable {P : Program} {X : Cx DC} {w0 : World} {own : List Nat}

def CodeOk (P : Program) (X : Cx DC) (w0 : World) (own : List Nat) (n : Nat) : Prop :=
  ∀ f c s r, Within P f c → (ev P X f n (.code c) s).pick = some r → ∀ ρ a w, SR w0 own ρ s a w → c.wp P (CodePost w0 own ρ s r) a w
def OpsOk (P : Program) (X : Cx DC) (w0 : World) (own : List Nat) (n : Nat) : Prop :=
  ∀ f all todo s r, (ev P X f n (.ops all todo) s).pick = some r → ∀ ρ a w, SR w0 own ρ s a w → wpList P all (CodePost w0 own ρ s r) todo a w
def QuietOk (P : Program) (X : Cx DC) (w0 : World) (own : List Nat) (n : Nat) : Prop :=
  ∀ f all todo s r, (ev P X f n (.quiet all todo) s).pick = some r → ∀ ρ a, RS ρ s.slots a → ρ.length = s.heap.length → (∃ w, WR w0 own ρ s.heap w) →
    wpQuiet P all (WR w0 own ρ s.heap) (fun a' => ∀ w', WR w0 own ρ s.heap w' → CodePost w0 own ρ s r .normal a' w') todo a
/-- The worlds that are as the present one is told; in the strict mode (bit 61), those of its very memory, and maybe more. -/
def ClW (w0 : World) (own : List Nat) (ρ : List Rb) (h : List (AO DC)) (k : Nat) (w : World) : World → Prop := fun x => WR w0 own ρ h x ∧ (Nat.testBit k 61 = true → ∀ b, b < w.heap.size → x.heap[b]? = w.heap[b]?)
theorem ClW_eq {w0 : World} {own : List Nat} {ρ : List Rb} {h : List (AO DC)} {k : Nat} {w : World} (hk : Nat.testBit k 61 = false) : ClW w0 own ρ h k w = WR w0 own ρ h := by
  funext x
  exact propext ⟨fun hx => hx.1, fun hx => ⟨hx, fun e => by rw [hk] at e; cases e⟩⟩
def ChainOk (P : Program) (X : Cx DC) (w0 : World) (own : List Nat) (n : Nat) : Prop :=
  ∀ f all k bs todo listed s r, (ev P X f n (.chain all k bs todo listed) s).pick = some r → ∀ ρ a w, SR w0 own ρ s a w →
    wpT P .any all (resetsC all k) (WR w0 own [] []) (CodePost w0 own ρ s r .normal) todo.length (ClW w0 own ρ (goneAll bs s.heap) k w) listed a w
def CallOk (P : Program) (X : Cx DC) (w0 : World) (own : List Nat) (n : Nat) : Prop :=
  ∀ f args h r, (call P X n f args h).pick = some r → ∀ ρ w vals, WR w0 own ρ h w → VRels ρ args vals → Calls P f vals.toArray w (CallPost w0 own ρ h r)
def LoopOk (P : Program) (X : Cx DC) (w0 : World) (own : List Nat) (n : Nat) : Prop :=
  ∀ f c s r, Within P f (.loop c) → (ev P X f n (.code (.loop c)) s).pick = some r → ∀ ρ a w, SR w0 own ρ s a w → Code.rounds P c (CodePost w0 own ρ s r) n a w

theorem Oper.wp_mono2 {o : Oper} {a : Act} {w : World} {K K' : Act → World → Prop} {Q Q' : Exit → Act → World → Prop} (h : ∀ a w, K a w → K' a w) (hq : ∀ e a w, Q e a w → Q' e a w) (hh : o.wp P a w K Q) : o.wp P a w K' Q' := by
  unfold Oper.wp at *
  generalize (execOp a.eval o).run P w = r at *
  cases r with
  | ok n w' =>
    cases n <;> simp only [Oper.upon] at hh ⊢ <;>
      first
        | exact h _ _ hh
        | exact Calls.mono hh (fun e w'' he => by
            cases e with
            | returned v => exact h _ _ he
            | panicked ch => exact hq _ _ _ he
            | outgrown => obtain ⟨a0, w0, h0⟩ := he; exact ⟨a0, w0, hq _ _ _ h0⟩)
        | exact Rows.mono hh (fun _ _ he => h _ _ he)
  | halt x w' => cases x <;> simp only [Oper.upon] at hh ⊢ <;> first | exact hq _ _ _ hh | exact hh

theorem wpList_mono {all : Array Oper} {Q Q' : Exit → Act → World → Prop} (hq : ∀ e a w, Q e a w → Q' e a w) : ∀ (l : List Oper) (a : Act) (w : World), wpList P all Q l a w → wpList P all Q' l a w
  | [], a, w, h => hq _ _ _ h
  | o :: l, a, w, h => by
    unfold wpList at h ⊢
    split
    · rename_i hw
      rw [if_pos hw] at h
      rcases h with h | ⟨h1, a0, w0, h2⟩
      · exact .inl (Oper.wp_mono2 (wpList_mono hq l) hq h)
      · exact .inr ⟨h1, a0, w0, hq _ _ _ h2⟩
    · rename_i hw
      rw [if_neg hw] at h
      exact wpList_mono hq l _ _ h

theorem wpQuiet_mono {all : Array Oper} {C : World → Prop} {Q Q' : Act → Prop} (hq : ∀ a, Q a → Q' a) : ∀ (l : List Oper) (a : Act), wpQuiet P all C Q l a → wpQuiet P all C Q' l a
  | [], a, h => hq _ h
  | o :: l, a, h => by
    unfold wpQuiet at h ⊢
    split
    · rename_i hw
      rw [if_pos hw] at h
      exact Oper.quiet_mono (wpQuiet_mono hq l) h
    · rename_i hw
      rw [if_neg hw] at h
      exact wpQuiet_mono hq l _ h

theorem code_zero : CodeOk P X w0 own 0 := fun _ _ _ _ _ h => by simp [ev, T.pick] at h
theorem ops_zero : OpsOk P X w0 own 0 := fun _ _ _ _ _ h => by simp [ev, T.pick] at h
theorem quiet_zero : QuietOk P X w0 own 0 := fun _ _ _ _ _ h => by simp [ev, T.pick] at h
theorem call_zero : CallOk P X w0 own 0 := fun _ _ _ _ h => by simp [call, T.pick] at h
theorem loop_zero : LoopOk P X w0 own 0 := fun _ _ _ _ _ h => by simp [ev, T.pick] at h

theorem rounds_mono {c : Code} {Q Q' : Exit → Act → World → Prop} (hq : ∀ e a w, Q e a w → Q' e a w) : ∀ (n : Nat) (a : Act) (w : World), Code.rounds P c Q n a w → Code.rounds P c Q' n a w
  | 0, _, _, h => h
  | n + 1, a, w, h => by
    rw [rounds_succ] at h ⊢
    refine Code.wp_mono (fun e a w => ?_) h
    cases e <;> first | exact rounds_mono hq n a w | exact hq _ a w

theorem exitR {ρ : List Rb} {x : Ex DC} {e : Exit} (h : ExR ρ x (.exit e)) : (x = .normal ∧ e = .normal) ∨ (∃ i, x = .exit i ∧ e = .exit i) ∨ (x = .ret ∧ e = .ret) := by
  cases x <;> cases e <;> first | (exact h.elim) | skip
  · exact .inl ⟨rfl, rfl⟩
  · exact .inr (.inl ⟨_, rfl, by rw [show _ = _ from h]⟩)
  · exact .inr (.inr ⟨rfl, rfl⟩)

theorem code_seq {n : Nat} (hc : CodeOk P X w0 own n) {f : FuncId} {x y : Code} {s : St DC} {r : Ex DC × List (W DC)} (hi : Within P f (.seq x y)) (h : (ev P X f (n + 1) (.code (.seq x y)) s).pick = some r) {ρ : List Rb} {a : Act} {w : World} (H : SR w0 own ρ s a w) :
    (Code.seq x y).wp P (CodePost w0 own ρ s r) a w := by
  simp only [ev] at h
  obtain ⟨r1, h1, h2⟩ := T.bind_some h
  refine wp_seq (Code.wp_mono (fun e a' w' hg => ?_) (hc _ _ _ _ (hi.sub (.seqL (.refl _))) h1 ρ a w H))
  obtain ⟨ρ', g1, g2, g3⟩ := hg
  rcases exitR g2 with ⟨e1, rfl⟩ | ⟨i, e1, rfl⟩ | ⟨e1, rfl⟩
  · rw [e1] at h2
    simp only [] at h2
    obtain ⟨q, h3, h4⟩ := T.bind_some h2
    have := T.ret_some h4
    subst this
    exact Code.wp_mono (fun e a w hg => Good.before g1 hg) (hc _ _ _ _ (hi.sub (.seqR (.refl _))) h3 ρ' a' w' g3)
  · rw [e1] at h2
    simp only [] at h2
    have := T.ret_some h2
    subst this
    exact ⟨ρ', g1, g2, g3⟩
  · rw [e1] at h2
    simp only [] at h2
    have := T.ret_some h2
    subst this
    exact ⟨ρ', g1, g2, g3⟩

theorem code_cond {n : Nat} (hc : CodeOk P X w0 own n) {f : FuncId} {c : Operand} {x y : Code} {s : St DC} {r : Ex DC × List (W DC)} (hi : Within P f (.cond c x y)) (h : (ev P X f (n + 1) (.code (.cond c x y)) s).pick = some r) {ρ : List Rb} {a : Act} {w : World} (H : SR w0 own ρ s a w) :
    (Code.cond c x y).wp P (CodePost w0 own ρ s r) a w := by
  simp only [ev] at h
  have hv := evalA_rel H.1 c
  cases hcv : evalA s.slots c <;> rw [hcv] at h hv <;> (try simp only [] at h) <;> first | (cases h; done) | skip
  rename_i ab
  cases ab with
  | lit b =>
    cases b <;> simp only [] at h
    · exact wp_cond_false hv (hc _ _ _ _ (hi.sub (.condR (.refl _))) h ρ a w H)
    · exact wp_cond_true hv (hc _ _ _ _ (hi.sub (.condL (.refl _))) h ρ a w H)
  | sym b =>
    simp only [] at h
    obtain ⟨z, hz, hz2⟩ := joinT_sound (w0 := w0) (own := own) _ _ h
    rcases T.br_some hz with ⟨h1, h2⟩ | ⟨h1, h2⟩
    · exact wp_cond_true (by rw [hv]; exact congrArg Value.bool h1) (Code.wp_mono (fun e a' w' hg => hz2 H hg) (hc _ _ _ _ (hi.sub (.condL (.refl _))) h2 ρ a w H))
    · exact wp_cond_false (by rw [hv]; exact congrArg Value.bool h1) (Code.wp_mono (fun e a' w' hg => hz2 H hg) (hc _ _ _ _ (hi.sub (.condR (.refl _))) h2 ρ a w H))

theorem code_block {n : Nat} (hc : CodeOk P X w0 own n) {f : FuncId} {id : Nat} {x : Code} {s : St DC} {r : Ex DC × List (W DC)} (hX : Ok P X) (hi : Within P f (.block id x)) (h : (ev P X f (n + 1) (.code (.block id x)) s).pick = some r) {ρ : List Rb} {a : Act} {w : World} (H : SR w0 own ρ s a w) :
    (Code.block id x).wp P (CodePost w0 own ρ s r) a w := by
  simp only [ev] at h
  cases hb : X.blk f id with
  | some g =>
    rw [hb] at h
    exact hX.blk f id g hb x s r hi h w0 own ρ a w H
  | none =>
  rw [hb] at h
  simp only [] at h
  obtain ⟨z, hz, hz2⟩ := joinT_sound (w0 := w0) (own := own) _ _ h
  obtain ⟨r1, h1, h2⟩ := T.bind_some hz
  refine wp_block (Code.wp_mono (fun e a' w' hg => ?_) (hc _ _ _ _ (hi.sub (.block (.refl _))) h1 ρ a w H))
  obtain ⟨ρ', g1, g2, g3⟩ := hg
  rcases exitR g2 with ⟨e1, rfl⟩ | ⟨i, e1, rfl⟩ | ⟨e1, rfl⟩
  · rw [e1] at h2
    simp only [] at h2
    have := T.ret_some h2
    subst this
    exact hz2 H ⟨ρ', g1, g2, g3⟩
  · rw [e1] at h2
    simp only [] at h2
    simp only [Exit.inBlock]
    split at h2
    · rename_i hi
      have := Nat.eq_of_beq_eq_true hi
      subst this
      have := T.ret_some h2
      subst this
      rw [if_pos rfl]
      exact hz2 H ⟨ρ', g1, trivial, g3⟩
    · rename_i hi
      have hne : i ≠ id := fun e => by subst e; simp at hi
      have := T.ret_some h2
      subst this
      rw [if_neg hne]
      exact hz2 H ⟨ρ', g1, g2, g3⟩
  · rw [e1] at h2
    simp only [] at h2
    have := T.ret_some h2
    subst this
    exact hz2 H ⟨ρ', g1, g2, g3⟩

theorem loop_succ {n : Nat} (hc : CodeOk P X w0 own n) (hl : LoopOk P X w0 own n) : LoopOk P X w0 own (n + 1) := by
  intro f c s r hi h ρ a w H
  simp only [ev] at h
  obtain ⟨r1, h1, h2⟩ := T.bind_some h
  rw [rounds_succ]
  refine Code.wp_mono (fun e a' w' hg => ?_) (hc _ _ _ _ (hi.sub (.loop (.refl _))) h1 ρ a w H)
  obtain ⟨ρ', g1, g2, g3⟩ := hg
  rcases exitR g2 with ⟨e1, rfl⟩ | ⟨i, e1, rfl⟩ | ⟨e1, rfl⟩
  · rw [e1] at h2
    simp only [] at h2
    obtain ⟨q, h3, h4⟩ := T.bind_some h2
    have := T.ret_some h4
    subst this
    exact rounds_mono (fun e a w hg => Good.before g1 hg) n _ _ (hl _ _ _ _ hi h3 ρ' a' w' g3)
  · rw [e1] at h2
    simp only [] at h2
    have := T.ret_some h2
    subst this
    exact ⟨ρ', g1, g2, g3⟩
  · rw [e1] at h2
    simp only [] at h2
    have := T.ret_some h2
    subst this
    exact ⟨ρ', g1, g2, g3⟩

theorem region_tail (hX : Ok P X) {n : Nat} (ho : OpsOk P X w0 own n) (hq : QuietOk P X w0 own n) {f : FuncId} {id k : Nat} {ops : Array Oper} {s : St DC} {r : Ex DC × List (W DC)} (hB : Region.lexTailB .any ops k = true)
    (h : (joinT s (X.base f) (thenT (ev P X f n (.quiet ops (ops.toList.take k)) s) fun l => ev P X f n (.ops ops (ops.toList.drop k)) (s.apps l))).pick = some r) {ρ : List Rb} {a : Act} {w : World} (H : SR w0 own ρ s a w) : (Code.region id ops true).wp P (CodePost w0 own ρ s r) a w := by
  obtain ⟨z, hz, hz2⟩ := joinT_sound (w0 := w0) (own := own) _ _ h
  obtain ⟨r1, h1, h2⟩ := T.bind_some hz
  obtain ⟨e1, l1⟩ := r1
  cases e1 <;> first | (cases h2; done) | skip
  obtain ⟨q, h3, h4⟩ := T.bind_some h2
  have := T.ret_some h4
  subst this
  refine Code.wp_mono (fun e a' w' hg => hz2 H hg) (wp_region_quiet_tail (C := WR w0 own ρ s.heap) k hX.mixed hB H.2.drew ?_)
  refine wpQuiet_mono (fun a' hg w' hw' => ?_) _ _ (hq _ _ _ _ _ h1 ρ a H.1 H.2.len ⟨w, H.2⟩)
  obtain ⟨ρ', g1, g2, g3⟩ := hg w' hw'
  exact wpList_mono (fun e a w hg => Good.before g1 hg) _ _ _ (ho _ _ _ _ _ h3 ρ' a' w' g3)

theorem noHeapW_spec : ∀ (l : List (W DC)) (s : St DC), noHeapW l = true → (s.apps l).heap = s.heap ∧ ∀ h, (({ slots := s.slots, heap := h } : St DC).apps l) = { slots := (s.apps l).slots, heap := h }
  | [], s, _ => ⟨rfl, fun _ => rfl⟩
  | .slot d v :: l, s, h => by
    obtain ⟨h1, h2⟩ := noHeapW_spec l { s with slots := s.slots.set d v } h
    exact ⟨h1, fun h => h2 h⟩
  | .cell _ _ _ :: l, s, h => by cases h
  | .new _ :: l, s, h => by cases h
  | .obj _ _ :: l, s, h => by cases h

theorem setObj_len : ∀ (h : List (AO DC)) (b i : Nat) (v : AV DC), (setObj h b i v).length = h.length
  | [], _, _, _ => rfl
  | o :: h, 0, i, v => by cases o <;> rfl
  | o :: h, b + 1, i, v => by cases o <;> exact congrArg (· + 1) (setObj_len h b i v)
theorem setObj_ne : ∀ (h : List (AO DC)) (b i : Nat) (v : AV DC) (c : Nat), c ≠ b → (setObj h b i v)[c]? = h[c]?
  | [], _, _, _, _, _ => rfl
  | o :: h, 0, i, v, 0, hc => absurd rfl hc
  | o :: h, 0, i, v, c + 1, _ => by cases o <;> rfl
  | o :: h, b + 1, i, v, 0, _ => by cases o <;> rfl
  | o :: h, b + 1, i, v, c + 1, hc => by
    have := setObj_ne h b i v c (by omega)
    cases o <;> exact this
theorem goneAll_get : ∀ (bs : List Nat) (h : List (AO DC)) (i : Nat), (goneAll bs h)[i]? = if i ∈ bs then (h[i]?).map (fun _ => AO.gone) else h[i]?
  | [], h, i => by simp [goneAll]
  | b :: bs, h, i => by
    simp only [goneAll]
    rw [goneAll_get bs, List.getElem?_set]
    by_cases hb : b = i
    · subst hb
      by_cases hl : b < h.length
      · by_cases hin : b ∈ bs <;> simp [hin, hl]
      · by_cases hin : b ∈ bs <;> simp [hin, hl, List.getElem?_eq_none (Nat.le_of_not_lt hl)]
    · by_cases hin : i ∈ bs <;> simp [hin, hb, Ne.symm hb]
theorem goneAll_len : ∀ (bs : List Nat) (h : List (AO DC)), (goneAll bs h).length = h.length
  | [], h => rfl
  | b :: bs, h => by simp only [goneAll]; rw [goneAll_len bs]; simp
theorem goneAll_set {bs : List Nat} {h : List (AO DC)} {b i : Nat} {v : AV DC} (hb : b ∈ bs) : goneAll bs (setObj h b i v) = goneAll bs h := by
  refine List.ext_getElem? fun c => ?_
  rw [goneAll_get, goneAll_get]
  by_cases hc : c = b
  · subst hc
    rw [if_pos hb, if_pos hb]
    have hl := setObj_len h c i v
    rcases Nat.lt_or_ge c h.length with hlt | hge
    · rw [List.getElem?_eq_getElem hlt, List.getElem?_eq_getElem (by omega : c < (setObj h c i v).length)]
      rfl
    · rw [List.getElem?_eq_none hge, List.getElem?_eq_none (by omega : (setObj h c i v).length ≤ c)]
  · rw [setObj_ne h b i v c hc]
theorem WR.forgetAll : ∀ (bs : List Nat) {h : List (AO DC)} {ρ : List Rb} {w : World}, WR w0 own ρ h w → WR w0 own ρ (goneAll bs h) w
  | [], _, _, _, H => H
  | b :: bs, _, _, _, H => WR.forgetAll bs (H.forget b)

theorem cells_spec {bs : List Nat} : ∀ (l : List (W DC)) (s : St DC), l.all (isCellOf bs) = true → (s.apps l).slots = s.slots ∧ goneAll bs (s.apps l).heap = goneAll bs s.heap ∧ (s.apps l).heap.length = s.heap.length
  | [], s, _ => ⟨rfl, rfl, rfl⟩
  | .cell b' i v :: l, s, h => by
    simp only [List.all_cons, Bool.and_eq_true] at h
    obtain ⟨hb, hl⟩ := h
    obtain ⟨b2, hb2, he⟩ := List.any_eq_true.1 (show bs.any (Nat.beq b') = true from hb)
    have := Nat.eq_of_beq_eq_true he
    subst this
    obtain ⟨h1, h2, h3⟩ := cells_spec l (s.app (.cell b' i v)) hl
    exact ⟨h1, h2.trans (goneAll_set hb2), h3.trans (setObj_len s.heap b' i v)⟩
  | .slot _ _ :: l, s, h => by simp [isCellOf] at h
  | .new _ :: l, s, h => by simp [isCellOf] at h
  | .obj _ _ :: l, s, h => by simp [isCellOf] at h

theorem Ext.eq {ρ ρ' : List Rb} (h : Ext ρ ρ') (hl : ρ'.length = ρ.length) : ρ' = ρ := by
  refine List.ext_getElem? fun i => ?_
  rcases Nat.lt_or_ge i ρ.length with hi | hi
  · rw [h i ρ[i] (List.getElem?_eq_getElem hi), List.getElem?_eq_getElem hi]
  · rw [List.getElem?_eq_none hi, List.getElem?_eq_none (by omega)]

theorem stores_sound {bs : List Nat} {ρ : List Rb} {h0 : List (AO DC)} {ops : Array Oper} {e : Act} : ∀ (ks : List Nat) (s : St DC) (l : List (W DC)) (w : World), (storesT P ops bs ks s).pick = some l → RS ρ s.slots e → WR w0 own ρ s.heap w → goneAll bs s.heap = goneAll bs h0 →
    ∃ w', Stores P ops e (WR w0 own ρ (goneAll bs h0)) ks w w' ∧ WR w0 own ρ (s.apps l).heap w' ∧ (s.apps l).slots = s.slots
  | [], s, l, w, h, hS, hW, hg => by
    have := T.ret_some h
    subst this
    exact ⟨w, rfl, hW, rfl⟩
  | k :: ks, s, l, w, h, hS, hW, hg => by
    unfold storesT at h
    split at h
    · rename_i o ho
      obtain ⟨z, h1, h2⟩ := T.bind_some h
      split at h2
      · rename_i hcell
        obtain ⟨l2, h3, h4⟩ := T.bind_some h2
        have := T.ret_some h4
        subst this
        obtain ⟨v, w', ρ2, d1, d2, d3, d4, d5, d6⟩ := opA_sound (P := P) hS hW h1
        obtain ⟨c1, c2, c3⟩ := cells_spec z.2 s hcell
        have hρ2 : ρ2 = ρ := d2.eq (by rw [d4.len, c3, hW.len])
        subst hρ2
        have hg' : goneAll bs (s.apps z.2).heap = goneAll bs h0 := c2.trans hg
        obtain ⟨w2, k1, k2, k3⟩ := stores_sound ks (s.apps z.2) l2 w' h3 (by rw [c1]; exact hS) d4 hg'
        refine ⟨w2, ⟨o, w', ho, ?_, ?_, k1⟩, by rw [apps_append]; exact k2, by rw [apps_append, k3, c1]⟩
        · have := WR.forgetAll bs d4
          rw [hg'] at this
          exact this
        · rcases d1 with d1 | ⟨d1, _⟩
          · exact .inl ⟨_, d1⟩
          · exact .inr d1
      · cases h2
    · cases h

theorem region_aside (hX : Ok P X) {n : Nat} (hq : QuietOk P X w0 own n) {f : FuncId} {id : Nat} {bs : List Nat} {ops : Array Oper} {s : St DC} {r : Ex DC × List (W DC)} (hB : Region.asideB .any ops = true)
    (h : (joinT s (X.base f) (asideT P ops bs s (ev P X f n (.quiet ops (Region.restOps ops)) { slots := s.slots, heap := goneAll bs s.heap }))).pick = some r) {ρ : List Rb} {a : Act} {w : World} (H : SR w0 own ρ s a w) : (Code.region id ops true).wp P (CodePost w0 own ρ s r) a w := by
  obtain ⟨z, hz, hz2⟩ := joinT_sound (w0 := w0) (own := own) _ _ h
  unfold asideT at hz
  obtain ⟨r1, h1, h2⟩ := T.bind_some hz
  obtain ⟨e1, l1⟩ := r1
  cases e1 <;> first | (cases h2; done) | skip
  simp only [] at h2
  split at h2
  · rename_i hno
    obtain ⟨l2, h3, h4⟩ := T.bind_some h2
    have := T.ret_some h4
    subst this
    have hG : WR w0 own ρ (goneAll bs s.heap) w.drew := WR.forgetAll bs H.2.drew
    have hlen : ρ.length = s.heap.length := H.2.len
    refine Code.wp_mono (fun e a' w' hg => hz2 H hg) (wp_region_aside (C := WR w0 own ρ (goneAll bs s.heap)) hX.mixed hB hG (hq _ _ _ _ _ h1 ρ a H.1 (by simp [hlen, goneAll_len]) ⟨_, hG⟩) ?_ ?_)
    · intro e hL
      obtain ⟨ρ', g1, g2, g3⟩ := hL _ hG
      obtain ⟨n1, n2⟩ := noHeapW_spec l1 s hno
      rw [show (({ slots := s.slots, heap := goneAll bs s.heap } : St DC), (Ex.normal (D := DC), l1)).1.apps (({ slots := s.slots, heap := goneAll bs s.heap } : St DC), (Ex.normal (D := DC), l1)).2.2 = _ from n2 _] at g3
      have hρ : ρ' = ρ := g1.eq (by have := g3.2.len; simpa [hlen, goneAll_len] using this)
      subst hρ
      have hw1 : WR w0 own ρ' (s.apps l1).heap w.drew := by rw [n1]; exact H.2.drew
      obtain ⟨w2, k1, k2, k3⟩ := stores_sound (h0 := s.heap) (Region.storesOf ops) (s.apps l1) l2 w.drew h3 g3.1 hw1 (by rw [n1])
      refine ⟨w2, ⟨ρ', Ext.refl _, trivial, ?_, ?_⟩, k1⟩
      · rw [apps_append, k3]
        exact g3.1
      · rw [apps_append]
        exact k2
    · intro a e y hy
      cases y with
      | tmp d => exact absurd rfl (hy d)
      | _ => rfl
  · cases h2

theorem WR.hideAll : ∀ (bs : List Nat) {ρ : List Rb} {h : List (AO DC)} {w : World}, WR w0 own ρ h w → WR w0 own ρ (goneAll bs h) w
  | [], _, _, _, H => H
  | b :: bs, _, _, _, H => WR.hideAll bs (H.forget b)
theorem WR.bare {ρ : List Rb} {h : List (AO DC)} {w : World} (H : WR w0 own ρ h w) : WR w0 own [] [] w :=
  ⟨rfl, fun i j r r' o o' hi => by simp at hi, fun i r o hi => by simp at hi, fun i r o hi => by simp at hi, fun i o r hi => by simp at hi, H.frame, H.size, H.os, H.tape, H.output, H.pin⟩
theorem WR.hidden {w : World} (H : WR w0 own [] [] w) (ρ : List Rb) (h : List (AO DC)) (hl : ρ.length = h.length) : WR w0 own ρ (h.map fun _ => .gone) w := by
  have hg : ∀ (i : Nat) (o : AO DC), (h.map fun _ => (AO.gone : AO DC))[i]? = some o → o = .gone := fun i o ho => by
    rw [List.getElem?_map] at ho
    cases hi : h[i]? with
    | none => rw [hi] at ho; cases ho
    | some x => rw [hi] at ho; cases ho; rfl
  refine ⟨by simp [hl], fun i j r r' o o' hi hj hm => ?_, fun i r o hi hr => ?_, fun i r o hi hm => ?_, fun i o r hi hr => ?_, H.frame, H.size, H.os, H.tape, H.output, H.pin⟩
  · rw [hg i o hi] at hm; cases hm
  · rw [hg i o hi] at hr; exact hr.elim
  · rw [hg i o hi] at hm; cases hm
  · rw [hg i o hi]; trivial
theorem code_succ (hX : Ok P X) {n : Nat} (hc : CodeOk P X w0 own n) (ho : OpsOk P X w0 own n) (hq : QuietOk P X w0 own n) (hch : ChainOk P X w0 own n) (hl : LoopOk P X w0 own (n + 1)) : CodeOk P X w0 own (n + 1) := by
  intro f c s r hi h ρ a w H
  cases c with
  | skip =>
    simp only [ev] at h
    have := T.ret_some h
    subst this
    exact wp_skip ⟨ρ, Ext.refl _, trivial, H⟩
  | label l =>
    simp only [ev] at h
    have := T.ret_some h
    subst this
    exact wp_label ⟨ρ, Ext.refl _, trivial, H⟩
  | ret =>
    simp only [ev] at h
    have := T.ret_some h
    subst this
    exact wp_ret ⟨ρ, Ext.refl _, trivial, H⟩
  | exit id =>
    simp only [ev] at h
    have := T.ret_some h
    subst this
    exact wp_exit ⟨ρ, Ext.refl _, rfl, H⟩
  | region id ops draw =>
    cases draw with
    | false =>
      simp only [ev] at h
      obtain ⟨z, hz, hz2⟩ := joinT_sound (w0 := w0) (own := own) _ _ h
      exact Code.wp_mono (fun e a' w' hg => hz2 H hg) (wp_region_list (ho _ _ _ _ _ hz ρ a w H))
    | true =>
      simp only [ev] at h
      cases htl : X.tail f id with
      | some k =>
        rw [htl] at h
        simp only [] at h
        split at h
        · rename_i hB
          exact region_tail hX ho hq hB h H
        · split at h
          · rename_i hB
            cases hp : placesOf ops s (Region.storesOf ops) with
            | some bs =>
              rw [hp] at h
              exact region_aside hX hq hB h H
            | none =>
              rw [hp] at h
              obtain ⟨z, hz, _⟩ := joinT_sound (w0 := w0) (own := own) _ _ h
              cases hz
          · split at h
            · rename_i hB
              rw [Bool.and_eq_true] at hB
              obtain ⟨z, hz, hz2⟩ := joinT_sound (w0 := w0) (own := own) _ _ h
              refine Code.wp_mono (fun e a' w' hg => hz2 H hg) (wp_region_chain (resets := resetsC ops k) (Q := CodePost w0 own ρ s z) (C := ClW w0 own ρ (goneAll (if Nat.testBit k 60 then (placesOf ops s (Region.storesOf ops)).getD [] else []) s.heap) k { w with drawn := w.drawn + 1 }) (G := WR w0 own [] []) hX.mixed hB.1 (fun _ _ h => h) (fun x hx => hx.1.bare) ?_)
              have := hch _ _ _ _ _ _ _ _ hz ρ a { w with drawn := w.drawn + 1 } ⟨H.1, H.2.drew⟩
              rwa [Nat.eq_of_beq_eq_true hB.2] at this
            · cases h
      | none =>
      rw [htl] at h
      simp only [] at h
      split at h
      · rename_i hB
        obtain ⟨z, hz, hz2⟩ := joinT_sound (w0 := w0) (own := own) _ _ h
        refine Code.wp_mono (fun e a' w' hg => hz2 H hg) (wp_region_quiet (Q := CodePost w0 own ρ s z) (C := WR w0 own ρ s.heap) hX.mixed hB H.2.drew ?_)
        exact hq _ _ _ _ _ hz ρ a H.1 H.2.len ⟨w, H.2⟩
      · cases h
  | seq x y => exact code_seq hc hi h H
  | cond c x y => exact code_cond hc hi h H
  | block id x => exact code_block hc hX hi h H
  | loop x => exact wp_loop_rounds (n + 1) (hl _ _ _ _ hi h ρ a w H)
  | rangeFunc f p x y => simp only [ev] at h; cases h
  | scope x =>
    simp only [ev] at h
    refine wp_scope_straight (Code.wp_mono (fun e a' w' hg => ?_) (hc _ _ _ _ (hi.sub (.scope (.refl _))) h ρ a w H))
    obtain ⟨ρ', g1, g2, g3⟩ := hg
    rcases exitR g2 with ⟨e1, rfl⟩ | ⟨i, e1, rfl⟩ | ⟨e1, rfl⟩ <;> exact ⟨ρ', g1, g2, g3⟩
  | goto l => simp only [ev] at h; cases h
  | refuse y => simp only [ev] at h; cases h
end
end Go.Proofs.Ytngcbpcfgolifaa.Ev
