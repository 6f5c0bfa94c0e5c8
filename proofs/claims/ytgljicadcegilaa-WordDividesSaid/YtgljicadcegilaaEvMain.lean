/- The evaluator is sound: the main induction. -/
import Derived.Test.YtgljicadcegilaaEvMainB
namespace Go.Proofs.Ytgljicadcegilaa.Ev
open Go.RowKit
set_option linter.unusedVariables false
set_option linter.unusedSimpArgs false
section
variable {P : Program} {X : Cx DC} {w0 : World} {own : List Nat}

def CodePost (w0 : World) (own ρ : List Nat) (s : St DC) (r : Ex DC × List (W DC)) : Exit → Act → World → Prop := fun e a w => Good w0 own ρ s r (.exit e) a w

def CodeOk (P : Program) (X : Cx DC) (w0 : World) (own : List Nat) (n : Nat) : Prop :=
  ∀ base c s r, (ev P X base n (.code c) s).pick = some r → ∀ ρ a w, SR w0 own ρ s a w → c.wp P (CodePost w0 own ρ s r) a w
def OpsOk (P : Program) (X : Cx DC) (w0 : World) (own : List Nat) (n : Nat) : Prop :=
  ∀ base all todo s r, (ev P X base n (.ops all todo) s).pick = some r → ∀ ρ a w, SR w0 own ρ s a w → wpList P all (CodePost w0 own ρ s r) todo a w
def QuietOk (P : Program) (X : Cx DC) (w0 : World) (own : List Nat) (n : Nat) : Prop :=
  ∀ base all todo s r, (ev P X base n (.quiet all todo) s).pick = some r → ∀ ρ a, RS ρ s.slots a → ρ.length = s.heap.length → (∃ w, WR w0 own ρ s.heap w) →
    wpQuiet P all (WR w0 own ρ s.heap) (fun a' => ∀ w', WR w0 own ρ s.heap w' → CodePost w0 own ρ s r .normal a' w') todo a
def CallPost (w0 : World) (own ρ : List Nat) (h : List (AO DC)) (r : Ex DC × List (W DC)) : Ending → World → Prop := fun e w =>
  ∃ u v ρ', r.1 = .val v ∧ e = .returned u ∧ Ext ρ ρ' ∧ VRel ρ' v u ∧ WR w0 own ρ' (({ slots := [], heap := h } : St DC).apps r.2).heap w
def CallOk (P : Program) (X : Cx DC) (w0 : World) (own : List Nat) (n : Nat) : Prop :=
  ∀ f args h r, (call P X n f args h).pick = some r → ∀ ρ w vals, WR w0 own ρ h w → VRels ρ args vals → Calls P f vals.toArray w (CallPost w0 own ρ h r)
def LoopOk (P : Program) (X : Cx DC) (w0 : World) (own : List Nat) (n : Nat) : Prop :=
  ∀ base c s r, (ev P X base n (.code (.loop c)) s).pick = some r → ∀ ρ a w, SR w0 own ρ s a w → Code.rounds P c (CodePost w0 own ρ s r) n a w

theorem code_zero : CodeOk P X w0 own 0 := fun _ _ _ _ h => by simp [ev, T.pick] at h
theorem ops_zero : OpsOk P X w0 own 0 := fun _ _ _ _ _ h => by simp [ev, T.pick] at h
theorem quiet_zero : QuietOk P X w0 own 0 := fun _ _ _ _ _ h => by simp [ev, T.pick] at h
theorem call_zero : CallOk P X w0 own 0 := fun _ _ _ _ h => by simp [call, T.pick] at h
theorem loop_zero : LoopOk P X w0 own 0 := fun _ _ _ _ h => by simp [ev, T.pick] at h

theorem rounds_mono {c : Code} {Q Q' : Exit → Act → World → Prop} (hq : ∀ e a w, Q e a w → Q' e a w) : ∀ (n : Nat) (a : Act) (w : World), Code.rounds P c Q n a w → Code.rounds P c Q' n a w
  | 0, _, _, h => h
  | n + 1, a, w, h => by
    rw [rounds_succ] at h ⊢
    refine Code.wp_mono (fun e a w => ?_) h
    cases e <;> first | exact rounds_mono hq n a w | exact hq _ a w

theorem exitR {ρ : List Nat} {x : Ex DC} {e : Exit} (h : ExR ρ x (.exit e)) : (x = .normal ∧ e = .normal) ∨ (∃ i, x = .exit i ∧ e = .exit i) ∨ (x = .ret ∧ e = .ret) := by
  cases x <;> cases e <;> first | (exact h.elim) | skip
  · exact .inl ⟨rfl, rfl⟩
  · exact .inr (.inl ⟨_, rfl, by rw [show _ = _ from h]⟩)
  · exact .inr (.inr ⟨rfl, rfl⟩)

theorem code_seq {n : Nat} (hc : CodeOk P X w0 own n) {base : Nat} {x y : Code} {s : St DC} {r : Ex DC × List (W DC)} (h : (ev P X base (n + 1) (.code (.seq x y)) s).pick = some r) {ρ : List Nat} {a : Act} {w : World} (H : SR w0 own ρ s a w) :
    (Code.seq x y).wp P (CodePost w0 own ρ s r) a w := by
  simp only [ev] at h
  obtain ⟨r1, h1, h2⟩ := T.bind_some h
  refine wp_seq (Code.wp_mono (fun e a' w' hg => ?_) (hc _ _ _ _ h1 ρ a w H))
  obtain ⟨ρ', g1, g2, g3⟩ := hg
  rcases exitR g2 with ⟨e1, rfl⟩ | ⟨i, e1, rfl⟩ | ⟨e1, rfl⟩
  · rw [e1] at h2
    simp only [] at h2
    obtain ⟨q, h3, h4⟩ := T.bind_some h2
    have := T.ret_some h4
    subst this
    exact Code.wp_mono (fun e a w hg => Good.before g1 hg) (hc _ _ _ _ h3 ρ' a' w' g3)
  · rw [e1] at h2
    simp only [] at h2
    have := T.ret_some h2
    subst this
    exact ⟨ρ', g1, g2, g3⟩
  · rw [e1] at h2
    simp only [] at h2
    have := T.ret_some h2
    subst this
    exact ⟨ρ', g1, g2, g3⟩

theorem code_cond {n : Nat} (hc : CodeOk P X w0 own n) {base : Nat} {c : Operand} {x y : Code} {s : St DC} {r : Ex DC × List (W DC)} (h : (ev P X base (n + 1) (.code (.cond c x y)) s).pick = some r) {ρ : List Nat} {a : Act} {w : World} (H : SR w0 own ρ s a w) :
    (Code.cond c x y).wp P (CodePost w0 own ρ s r) a w := by
  simp only [ev] at h
  have hv := evalA_rel H.1 c
  cases hcv : evalA s.slots c <;> rw [hcv] at h hv <;> (try simp only [] at h) <;> first | (cases h; done) | skip
  rename_i ab
  cases ab with
  | lit b =>
    cases b <;> simp only [] at h
    · exact wp_cond_false hv (hc _ _ _ _ h ρ a w H)
    · exact wp_cond_true hv (hc _ _ _ _ h ρ a w H)
  | sym b =>
    simp only [] at h
    obtain ⟨z, hz, hz2⟩ := joinT_sound (w0 := w0) (own := own) _ _ h
    rcases T.br_some hz with ⟨h1, h2⟩ | ⟨h1, h2⟩
    · exact wp_cond_true (by rw [hv]; exact congrArg Value.bool h1) (Code.wp_mono (fun e a' w' hg => hz2 H hg) (hc _ _ _ _ h2 ρ a w H))
    · exact wp_cond_false (by rw [hv]; exact congrArg Value.bool h1) (Code.wp_mono (fun e a' w' hg => hz2 H hg) (hc _ _ _ _ h2 ρ a w H))

theorem code_block {n : Nat} (hc : CodeOk P X w0 own n) {base id : Nat} {x : Code} {s : St DC} {r : Ex DC × List (W DC)} (h : (ev P X base (n + 1) (.code (.block id x)) s).pick = some r) {ρ : List Nat} {a : Act} {w : World} (H : SR w0 own ρ s a w) :
    (Code.block id x).wp P (CodePost w0 own ρ s r) a w := by
  simp only [ev] at h
  obtain ⟨z, hz, hz2⟩ := joinT_sound (w0 := w0) (own := own) _ _ h
  obtain ⟨r1, h1, h2⟩ := T.bind_some hz
  refine wp_block (Code.wp_mono (fun e a' w' hg => ?_) (hc _ _ _ _ h1 ρ a w H))
  obtain ⟨ρ', g1, g2, g3⟩ := hg
  rcases exitR g2 with ⟨e1, rfl⟩ | ⟨i, e1, rfl⟩ | ⟨e1, rfl⟩
  · rw [e1] at h2
    simp only [] at h2
    have := T.ret_some h2
    subst this
    exact hz2 H ⟨ρ', g1, g2, g3⟩
  · rw [e1] at h2
    simp only [] at h2
    simp only [Exit.inBlock]
    split at h2
    · rename_i hi
      have := Nat.eq_of_beq_eq_true hi
      subst this
      have := T.ret_some h2
      subst this
      rw [if_pos rfl]
      exact hz2 H ⟨ρ', g1, trivial, g3⟩
    · rename_i hi
      have hne : i ≠ id := fun e => by subst e; simp at hi
      have := T.ret_some h2
      subst this
      rw [if_neg hne]
      exact hz2 H ⟨ρ', g1, g2, g3⟩
  · rw [e1] at h2
    simp only [] at h2
    have := T.ret_some h2
    subst this
    exact hz2 H ⟨ρ', g1, g2, g3⟩

theorem loop_succ {n : Nat} (hc : CodeOk P X w0 own n) (hl : LoopOk P X w0 own n) : LoopOk P X w0 own (n + 1) := by
  intro base c s r h ρ a w H
  simp only [ev] at h
  obtain ⟨r1, h1, h2⟩ := T.bind_some h
  rw [rounds_succ]
  refine Code.wp_mono (fun e a' w' hg => ?_) (hc _ _ _ _ h1 ρ a w H)
  obtain ⟨ρ', g1, g2, g3⟩ := hg
  rcases exitR g2 with ⟨e1, rfl⟩ | ⟨i, e1, rfl⟩ | ⟨e1, rfl⟩
  · rw [e1] at h2
    simp only [] at h2
    obtain ⟨q, h3, h4⟩ := T.bind_some h2
    have := T.ret_some h4
    subst this
    exact rounds_mono (fun e a w hg => Good.before g1 hg) n _ _ (hl _ _ _ _ h3 ρ' a' w' g3)
  · rw [e1] at h2
    simp only [] at h2
    have := T.ret_some h2
    subst this
    exact ⟨ρ', g1, g2, g3⟩
  · rw [e1] at h2
    simp only [] at h2
    have := T.ret_some h2
    subst this
    exact ⟨ρ', g1, g2, g3⟩

theorem code_succ (hX : Ok P X) {n : Nat} (hc : CodeOk P X w0 own n) (ho : OpsOk P X w0 own n) (hq : QuietOk P X w0 own n) (hl : LoopOk P X w0 own (n + 1)) : CodeOk P X w0 own (n + 1) := by
  intro base c s r h ρ a w H
  cases c with
  | skip =>
    simp only [ev] at h
    have := T.ret_some h
    subst this
    exact wp_skip ⟨ρ, Ext.refl _, trivial, H⟩
  | label l =>
    simp only [ev] at h
    have := T.ret_some h
    subst this
    exact wp_label ⟨ρ, Ext.refl _, trivial, H⟩
  | ret =>
    simp only [ev] at h
    have := T.ret_some h
    subst this
    exact wp_ret ⟨ρ, Ext.refl _, trivial, H⟩
  | exit id =>
    simp only [ev] at h
    have := T.ret_some h
    subst this
    exact wp_exit ⟨ρ, Ext.refl _, rfl, H⟩
  | region id ops draw =>
    cases draw with
    | false =>
      simp only [ev] at h
      obtain ⟨z, hz, hz2⟩ := joinT_sound (w0 := w0) (own := own) _ _ h
      exact Code.wp_mono (fun e a' w' hg => hz2 H hg) (wp_region_list (ho _ _ _ _ _ hz ρ a w H))
    | true =>
      simp only [ev] at h
      split at h
      · rename_i hB
        obtain ⟨z, hz, hz2⟩ := joinT_sound (w0 := w0) (own := own) _ _ h
        refine Code.wp_mono (fun e a' w' hg => hz2 H hg) (wp_region_quiet (Q := CodePost w0 own ρ s z) (C := WR w0 own ρ s.heap) hX.mixed hB H.2.drew ?_)
        exact hq _ _ _ _ _ hz ρ a H.1 H.2.len ⟨w, H.2⟩
      · cases h
  | seq x y => exact code_seq hc h H
  | cond c x y => exact code_cond hc h H
  | block id x => exact code_block hc h H
  | loop x => exact wp_loop_rounds (n + 1) (hl _ _ _ _ h ρ a w H)
  | rangeFunc f p x y => simp only [ev] at h; cases h
  | scope x => simp only [ev] at h; cases h
  | goto l => simp only [ev] at h; cases h
  | refuse y => simp only [ev] at h; cases h
end
end Go.Proofs.Ytgljicadcegilaa.Ev
