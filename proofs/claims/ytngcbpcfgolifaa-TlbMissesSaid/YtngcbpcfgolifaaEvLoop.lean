/- A loop's summary that tells what the state becomes. Conditions: none. -/
import Derived.Test.YtngcbpcfgolifaaEvTmpl
namespace Go.Proofs.Ytngcbpcfgolifaa.Ev
open Go.RowKit
set_option linter.unusedVariables false
set_option linter.unusedSimpArgs false
section
variable {P : Program} {X : Cx DC} {w0 : World} {own : List Nat}
/-- A loop's summary: where the template t fits, and what is asked holds, the state is then t' filled with what is told of t's numbers. -/
def loopSumF {D : Dom} (t t' : Tmpl) (n0 : Nat) (l : List Nat) (ask : Env D → D.B) (res : Env D → Env D) (s : St D) : T D (Ex D × List (W D)) :=
  if Nat.beq s.heap.length n0 then (match t.read n0 l s with
  | some e => if Nat.beq s.slots.length t'.slots.length && Nat.ble n0 t'.heap.length then .br (ask e) (.ret (.normal, slotW 0 (t'.fill (res e)).slots ++ objW n0 0 (t'.fill (res e)).heap)) .fail else .fail
  | none => .fail) else .fail

theorem loopSumF_ok {t t' : Tmpl} {n0 : Nat} {l : List Nat} {ask : Env DC → Bool} {res : Env DC → Env DC} {f : FuncId} {id : Nat} {ls : St DC → List Nat} {n : Nat} {I : Env DC → Env DC → Prop} {m : Env DC → Env DC → Nat} {Fin : Env DC → Env DC → Prop}
    (hX : Ok P X) (start : ∀ e, ask e = true → I e e) (round : ∀ e0 e, I e0 e → RoundT (I e0) (m e0) (Fin e0) id e (viewT t n0 ls (t.fill e) (ev P X f n (.code (loopAt P f id)) (t.fill e))))
    (fin : ∀ e0 e1, Fin e0 e1 → t'.read n0 (List.range t.heap.length) (t.fill e1) = some (res e0))
    (hw : Within P f (.block id (.loop (loopAt P f id)))) (s : St DC) (r : Ex DC × List (W DC)) (hr : (loopSumF (D := DC) t t' n0 l ask res s).pick = some r) (w0 : World) (own : List Nat) (ρ : List Rb) (a : Act) (w : World) (H : SR w0 own ρ s a w) :
    (Code.block id (.loop (loopAt P f id))).wp P (CodePost w0 own ρ s r) a w := by
  unfold loopSumF at hr
  split at hr
  case isFalse => cases hr
  rename_i hn0
  have hn0 := Nat.eq_of_beq_eq_true hn0
  subst hn0
  cases hrd : t.read s.heap.length l s with
  | none => rw [hrd] at hr; cases hr
  | some e0 =>
    rw [hrd] at hr
    simp only [] at hr
    split at hr
    · rename_i hlen
      simp only [Bool.and_eq_true] at hlen
      have hl1 := Nat.eq_of_beq_eq_true hlen.1
      have hl2 := Nat.le_of_ble_eq_true hlen.2
      rcases T.br_some hr with ⟨h1, h2⟩ | ⟨_, h2⟩
      · have := T.ret_some h2
        subst this
        have hcov := read_cov hrd
        have hn0 : s.heap.length ≤ t.heap.length := by
          have := (covH_get _ _ hcov.heap).1
          rw [fill_heap] at this
          rcases Nat.lt_or_ge t.heap.length s.heap.length with hlt | hge
          · have h3 := lowB_get s.heap.length 0 l hcov.low t.heap.length hlt
            have := (List.getElem?_eq_some_iff.1 h3).1
            omega
          · exact hge
        have hfin : s.apps (slotW 0 (t'.fill (res e0)).slots ++ objW s.heap.length 0 (t'.fill (res e0)).heap) = t'.fill (res e0) := by
          rw [apps_append]
          have h3 := slotW_apps (t'.fill (res e0)).slots [] s s.slots rfl (by rw [hl1]; simp [Tmpl.fill, fillL_len])
          simp only [List.length_nil, List.nil_append] at h3
          rw [h3]
          have h4 := objW_apps (n0 := s.heap.length) (t'.fill (res e0)).heap [] { s with slots := (t'.fill (res e0)).slots } s.heap rfl (by simp) (by rw [fill_heap]; exact hl2)
          simp only [List.length_nil, List.nil_append] at h4
          rw [h4]
        refine block_loop (S := t.fill) (I := I e0) (m := m e0) (Out := fun x s' => x = .exit id ∧ ∃ e' l, Fin e0 e' ∧ Cov s.heap.length l s' (t.fill e')) (sound (w0 := w0) (own := own) hX n).1 hw (g := e0) (l := l)
          (start e0 h1) hcov (fun e _ => by rw [fill_heap]; exact hn0) (fun e he => round_of (ls := ls) (round e0 e he)) ?_ H
        rintro x s' ⟨rfl, e1, l1, hf, hc1⟩
        refine ⟨l1, t.fill e1, List.range t.heap.length, hc1, by rw [fill_heap]; exact hn0, ?_, .inl ⟨rfl, rfl⟩⟩
        simp only []
        rw [hfin]
        exact read_cov (fin e0 e1 hf)
      · cases h2
    · cases hr
/-! ### A loop's rounds, each by a context of its own -/
noncomputable def roundsT (P : Program) (f : FuncId) (m : Nat) (a : Code) : List (Cx DC) → St DC → T DC (Ex DC × List (W DC))
  | [], _ => .fail
  | X :: Xs, s => (ev P X f m (.code a) s).bind fun r => match r.1 with
    | .normal => (roundsT P f m a Xs (s.apps r.2)).bind fun q => .ret (q.1, r.2 ++ q.2)
    | _ => .ret r
noncomputable def blockT (id : Nat) (t : T DC (Ex DC × List (W DC))) : T DC (Ex DC × List (W DC)) := t.bind fun r => match r.1 with
  | .exit i => if Nat.beq i id then .ret (.normal, r.2) else .ret r
  | _ => .ret r
theorem roundsT_ok {f : FuncId} {m : Nat} {a : Code} {w0 : World} {own : List Nat} : ∀ (Xs : List (Cx DC)), (∀ X ∈ Xs, Ok P X) → Within P f (.loop a) → ∀ (s : St DC) (r : Ex DC × List (W DC)), (roundsT P f m a Xs s).pick = some r → ∀ (ρ : List Rb) (ac : Act) (w : World), SR w0 own ρ s ac w → Code.rounds P a (CodePost w0 own ρ s r) Xs.length ac w
  | [], _, _, s, r, h, _, _, _, _ => by cases h
  | X :: Xs, hX, hi, s, r, h, ρ, ac, w, H => by
    obtain ⟨r1, h1, h2⟩ := T.bind_some h
    rw [List.length_cons, rounds_succ]
    refine Code.wp_mono (fun e a' w' hg => ?_) ((sound (hX X (by simp)) m).1 _ _ _ _ (hi.sub (.loop (.refl _))) h1 ρ ac w H)
    obtain ⟨ρ', g1, g2, g3⟩ := hg
    rcases exitR g2 with ⟨e1, rfl⟩ | ⟨i, e1, rfl⟩ | ⟨e1, rfl⟩
    · rw [e1] at h2
      simp only [] at h2
      obtain ⟨q, h3, h4⟩ := T.bind_some h2
      have := T.ret_some h4
      subst this
      exact rounds_mono (fun e a w hg => Good.before g1 hg) Xs.length _ _ (roundsT_ok Xs (fun Y hY => hX Y (by simp [hY])) hi _ _ h3 ρ' a' w' g3)
    · rw [e1] at h2
      simp only [] at h2
      have := T.ret_some h2
      subst this
      exact ⟨ρ', g1, g2, g3⟩
    · rw [e1] at h2
      simp only [] at h2
      have := T.ret_some h2
      subst this
      exact ⟨ρ', g1, g2, g3⟩
theorem stages_ok {X : Cx DC} (hX : Ok P X) {f : FuncId} {id m : Nat} {Xs : List (Cx DC)} (hXs : ∀ Y ∈ Xs, Ok P Y) (h1 : oneLoop (blocksAt id (bodyOf P f)) = true) : Ok P (X.block f id fun s => blockT id (roundsT P f m (loopAt P f id) Xs s)) :=
  hX.block h1 fun hw s r hr w0 own ρ a w H => by
    obtain ⟨r1, h1, h2⟩ := T.bind_some hr
    refine wp_block (Code.wp_mono (fun e a' w' hg => ?_) (wp_loop_rounds Xs.length (roundsT_ok Xs hXs (hw.sub (.block (.refl _))) s r1 h1 ρ a w H)))
    obtain ⟨ρ', g1, g2, g3⟩ := hg
    rcases exitR g2 with ⟨e1, rfl⟩ | ⟨i, e1, rfl⟩ | ⟨e1, rfl⟩
    · rw [e1] at h2
      simp only [] at h2
      have := T.ret_some h2
      subst this
      exact ⟨ρ', g1, g2, g3⟩
    · rw [e1] at h2
      simp only [] at h2
      simp only [Exit.inBlock]
      split at h2
      · rename_i hi
        have := Nat.eq_of_beq_eq_true hi
        subst this
        have := T.ret_some h2
        subst this
        rw [if_pos rfl]
        exact ⟨ρ', g1, trivial, g3⟩
      · rename_i hi
        have hne : i ≠ id := fun e => by subst e; simp at hi
        have := T.ret_some h2
        subst this
        rw [if_neg hne]
        exact ⟨ρ', g1, g2, g3⟩
    · rw [e1] at h2
      simp only [] at h2
      have := T.ret_some h2
      subst this
      exact ⟨ρ', g1, g2, g3⟩
end
end Go.Proofs.Ytngcbpcfgolifaa.Ev
