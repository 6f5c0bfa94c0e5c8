/- Loops whose states are told by several templates; a list that a function of numbers makes. Conditions: none. -/
import Derived.Test.YtngcbpcfgolifaaEvLoop
import Derived.Test.YtngcbpcfgolifaaEvPureA
import Derived.Test.YtngcbpcfgolifaaEvApp
namespace Go.Proofs.Ytngcbpcfgolifaa.Ev
open Go.RowKit
set_option linter.unusedVariables false
set_option linter.unusedSimpArgs false
section
variable {P : Program} {X : Cx DC} {w0 : World} {own : List Nat}
/-- As 'block_loop', where the last state covers what is told at once. -/
theorem block_loop2 {G : Type} {S : G → St DC} {I : G → Prop} {m : G → Nat} {Out : Ex DC → St DC → Prop} {n : Nat} {f : FuncId} {id : Nat} {c : Code} (hc : CodeOk P X w0 own n) (hi : Within P f (.block id (.loop c))) {s : St DC} {r : Ex DC × List (W DC)} {g : G} {l : List Nat}
    (hI : I g) (hcov : Cov s.heap.length l s (S g)) (hn : ∀ g, I g → s.heap.length ≤ (S g).heap.length) (step : ∀ g, I g → RoundOk S I m s.heap.length Out g (ev P X f n (.code c) (S g)))
    (hout : ∀ x s', Out x s' → ∃ l1, Cov s.heap.length l1 s' (s.apps r.2) ∧ ((x = .exit id ∧ r.1 = .normal) ∨ (x = r.1 ∧ x ≠ .exit id ∧ x ≠ .normal ∧ ∀ v, x ≠ .val v)))
    {ρ : List Rb} {a : Act} {w : World} (H : SR w0 own ρ s a w) : (Code.block id (.loop c)).wp P (CodePost w0 own ρ s r) a w := by
  obtain ⟨ρ1, H1, ha1⟩ := cov_sr hcov H (Nat.le_refl _)
  have hw := hi.sub (.block (.loop (.refl c)))
  have := loop_rounds hc hw hn step (m g + 1) g hI (Nat.lt_succ_self _) ρ1 a w H1
  refine wp_block (wp_loop_rounds (m g + 1) (rounds_mono (fun e a' w' hq => ?_) _ _ _ this))
  obtain ⟨ρ2, x, s', q1, q2, q3, q4, q5⟩ := hq
  obtain ⟨l1, hc1, hx⟩ := hout x s' q1
  obtain ⟨ρ3, H3, ha3⟩ := cov_sr hc1 q5 q3
  have hext : Ext ρ ρ3 := fun b rb hb => by
    have hlt : b < s.heap.length := by rw [← H.2.len]; exact (List.getElem?_eq_some_iff.1 hb).1
    rw [((ha1.trans q2).trans ha3) b hlt]
    exact hb
  rcases hx with ⟨rfl, e2⟩ | ⟨rfl, e1, e2, e3⟩
  · rcases exitR q4 with ⟨e, _⟩ | ⟨i, e, rfl⟩ | ⟨e, _⟩
    · cases e
    · cases e
      simp only [Exit.inBlock, if_pos]
      exact ⟨ρ3, hext, by rw [e2]; trivial, H3⟩
    · cases e
  · rcases exitR q4 with ⟨e, _⟩ | ⟨i, e, rfl⟩ | ⟨e, rfl⟩
    · exact absurd e e2
    · have hne : ¬ i = id := fun h => by subst h; exact e1 e
      simp only [Exit.inBlock, if_neg hne]
      exact ⟨ρ3, hext, ExR.any e3 q4, H3⟩
    · exact ⟨ρ3, hext, ExR.any e3 q4, H3⟩

/-- What a round's tree, seen through a template, comes to. -/
theorem view_pick {t : Tmpl} {n0 : Nat} {ls : St DC → List Nat} {s : St DC} {r : T DC (Ex DC × List (W DC))} {x : Ex DC} {e' : Env DC} (h : (viewT t n0 ls s r).pick = some (x, some e')) : ∃ q, r.pick = some q ∧ q.1 = x ∧ Cov n0 (ls (s.apps q.2)) (s.apps q.2) (t.fill e') := by
  obtain ⟨q, h1, h2⟩ := T.bind_some h
  refine ⟨q, h1, ?_⟩
  have hq : (x, some e') = (q.1, t.read n0 (ls (s.apps q.2)) (s.apps q.2)) := by
    cases hx : q.1 <;> rw [hx] at h2 <;> exact (T.ret_some h2).symm
  simp only [Prod.mk.injEq] at hq
  exact ⟨hq.1.symm, read_cov hq.2.symm⟩
theorem view_next {G : Type} {S : G → St DC} {I : G → Prop} {m : G → Nat} {n0 : Nat} {Out : Ex DC → St DC → Prop} {g g' : G} {t : Tmpl} {ls : St DC → List Nat} {r : T DC (Ex DC × List (W DC))} {e' : Env DC}
    (h : (viewT t n0 ls (S g) r).pick = some (.normal, some e')) (hS : t.fill e' = S g') (hI : I g') (hm : m g' < m g) : RoundOk S I m n0 Out g r := by
  obtain ⟨q, h1, h2, h3⟩ := view_pick h
  exact ⟨q, h1, .inl ⟨h2, g', _, hI, hm, hS ▸ h3⟩⟩
theorem view_out {G : Type} {S : G → St DC} {I : G → Prop} {m : G → Nat} {n0 : Nat} {x1 : Ex DC} {s1 : St DC} {g : G} {t : Tmpl} {ls : St DC → List Nat} {r : T DC (Ex DC × List (W DC))} {e' : Env DC}
    (h : (viewT t n0 ls (S g) r).pick = some (x1, some e')) (hn : x1 ≠ .normal) (hv : ∀ v, x1 ≠ .val v) (hS : t.fill e' = s1) : RoundOk S I m n0 (fun x s' => x = x1 ∧ ∃ l, Cov n0 l s' s1) g r := by
  obtain ⟨q, h1, h2, h3⟩ := view_pick h
  exact ⟨q, h1, .inr ⟨by rw [h2]; exact hn, by rw [h2]; exact hv, h2, _, hS ▸ h3⟩⟩

/-- A loop's summary: from the template t to the template t', which is filled with what is told; it ends as 'x' does. -/
def loopSumG {D : Dom} (t t' : Tmpl) (n0 : Nat) (l : List Nat) (ask : Env D → D.B) (res : Env D → Env D) (x : Ex D) (s : St D) : T D (Ex D × List (W D)) :=
  if Nat.beq s.heap.length n0 then (match t.read n0 l s with
  | some e => if Nat.beq s.slots.length t'.slots.length && Nat.ble n0 t'.heap.length then .br (ask e) (.ret (x, slotW 0 (t'.fill (res e)).slots ++ objW n0 0 (t'.fill (res e)).heap)) .fail else .fail
  | none => .fail) else .fail
theorem loopSumG_ok {t t' : Tmpl} {n0 : Nat} {l : List Nat} {ask : Env DC → Bool} {res : Env DC → Env DC} {f : FuncId} {id : Nat} {n : Nat} {x x1 : Ex DC} {G : Type} {S : Env DC → G → St DC} {I : Env DC → G → Prop} {m : Env DC → G → Nat} {g0 : Env DC → G}
    (hX : Ok P X) (hx : (x1 = .exit id ∧ x = .normal) ∨ (x1 = x ∧ x1 ≠ .exit id ∧ x1 ≠ .normal ∧ ∀ v, x1 ≠ .val v))
    (start : ∀ e, ask e = true → I e (g0 e) ∧ S e (g0 e) = t.fill e) (low : ∀ e g, I e g → n0 ≤ (S e g).heap.length)
    (step : ∀ e g, ask e = true → I e g → RoundOk (S e) (I e) (m e) n0 (fun x s' => x = x1 ∧ ∃ l, Cov n0 l s' (t'.fill (res e))) g (ev P X f n (.code (loopAt P f id)) (S e g)))
    (hw : Within P f (.block id (.loop (loopAt P f id)))) (s : St DC) (r : Ex DC × List (W DC)) (hr : (loopSumG (D := DC) t t' n0 l ask res x s).pick = some r) (w0 : World) (own : List Nat) (ρ : List Rb) (a : Act) (w : World) (H : SR w0 own ρ s a w) :
    (Code.block id (.loop (loopAt P f id))).wp P (CodePost w0 own ρ s r) a w := by
  unfold loopSumG at hr
  split at hr
  case isFalse => cases hr
  rename_i hn0
  have hn0 := Nat.eq_of_beq_eq_true hn0
  subst hn0
  cases hrd : t.read s.heap.length l s with
  | none => rw [hrd] at hr; cases hr
  | some e0 =>
    rw [hrd] at hr
    simp only [] at hr
    split at hr
    · rename_i hlen
      simp only [Bool.and_eq_true] at hlen
      have hl1 := Nat.eq_of_beq_eq_true hlen.1
      have hl2 := Nat.le_of_ble_eq_true hlen.2
      rcases T.br_some hr with ⟨h1, h2⟩ | ⟨_, h2⟩
      · have := T.ret_some h2
        subst this
        have hcov := read_cov hrd
        obtain ⟨st1, st2⟩ := start e0 h1
        have hfin : s.apps (slotW 0 (t'.fill (res e0)).slots ++ objW s.heap.length 0 (t'.fill (res e0)).heap) = t'.fill (res e0) := by
          rw [apps_append]
          have h3 := slotW_apps (t'.fill (res e0)).slots [] s s.slots rfl (by rw [hl1]; simp [Tmpl.fill, fillL_len])
          simp only [List.length_nil, List.nil_append] at h3
          rw [h3]
          have h4 := objW_apps (n0 := s.heap.length) (t'.fill (res e0)).heap [] { s with slots := (t'.fill (res e0)).slots } s.heap rfl (by simp) (by rw [fill_heap]; exact hl2)
          simp only [List.length_nil, List.nil_append] at h4
          rw [h4]
        refine block_loop2 (S := S e0) (I := I e0) (m := m e0) (sound (w0 := w0) (own := own) hX n).1 hw (g := g0 e0) (l := l) st1 (by rw [st2]; exact hcov) (low e0) (step e0 · h1) ?_ H
        rintro y s' ⟨rfl, l1, hc1⟩
        refine ⟨l1, ?_, ?_⟩
        · simp only []
          rw [hfin]
          exact hc1
        · rcases hx with ⟨e1, e2⟩ | ⟨e1, e2, e3, e4⟩
          · exact .inl ⟨e1, e2⟩
          · exact .inr ⟨e1, e2, e3, e4⟩
      · cases h2
    · cases hr

/-! ### A list that a function of numbers makes -/
/-- What was there stays. -/
theorem WR.later {ρ : List Rb} {h : List (AO DC)} {w w' : World} (H : WR w0 own ρ h w) (hb : Below w.heap.size w w') : WR w0 own ρ h w' := by
  refine ⟨H.len, H.inj, fun i r o ho hr hi => Nat.lt_of_lt_of_le (H.lt i r o ho hr hi) hb.size, H.new, fun i o r ho hr => ?_, fun b hb1 hb2 => ?_, Nat.le_trans H.size hb.size, hb.os.trans H.os, hb.tape.trans H.tape, hb.output.trans H.output, H.pin⟩
  · by_cases hreal : o.real
    · rw [hb.5 _ (H.lt i r o ho hreal hr)]
      exact H.obj i o r ho hr
    · exact ORel.unreal hreal
  · rw [hb.5 b (Nat.lt_of_lt_of_le hb1 H.size)]
    exact H.frame b hb1 hb2
theorem WR.pinned {ρ : List Rb} {h : List (AO DC)} {w : World} (H : WR w0 own ρ h w) : Pin w [] := fun b vs hb => by
  obtain ⟨hn, a, t, fz, h1, h2⟩ := H.pin b vs hb
  refine ⟨by simp, a, t, fz, ?_, h2⟩
  rw [H.frame b (Array.getElem?_eq_some_iff.1 h1).1 hn]
  exact h1

/-- A slice is a list of numbers: none, or some in a block of its own. -/
def IsList (k : IntKind) (hp : List (AO DC)) (x : AV DC) (n : Nat) (F : Nat → Int) : Prop :=
  (n = 0 ∧ (x = .nilslice ∨ ∃ b, x = .slice b (.lit 0) (.lit 0) (.kn (.lit 0)))) ∨ ∃ b t w, x = .slice b (.lit 0) (.rc n 1 0) (.un w) ∧ hp[b]? = some (.arr t n [(.int k, F)])
theorem VRels.bare {ρ ρ' : List Rb} {args : List (AV DC)} {vals : List Value} (ha : args.all scal = true) (hv : VRels ρ args vals) : VRels ρ' args vals :=
  covL_rel (σ := fun _ => none) (fun _ _ _ h => by cases h) args args vals (covL_scal ha) hv
theorem fn_list {f : FuncId} {args : List (AV DC)} {h : List (AO DC)} {x : AV DC} {ok : AB DC} {l : List (W DC)} {k : IntKind} {n : Nat} {F : Nat → Int} (ha : args.all scal = true) (hf : FnOk P f args [] (.tuple [x, .bool ok], l))
    (hx : IsList k (({ slots := [], heap := [] } : St DC).apps l).heap x n F) : FnOk P f args h (.tuple [.slice h.length (.lit 0) (.rc n 1 0) .any, .bool ok], [.new (.rows 0 n [(.int k, F)])]) := by
  intro w0 own ρ w vals H hvs
  refine (hf w [] [] w vals (WR.start w H.pinned) (hvs.bare ha)).mono fun e w' hp => ?_
  obtain ⟨u, v1, ρ', e1, e2, _, hv, Hw⟩ := hp
  cases e1
  have H' := H.later Hw.below
  obtain ⟨us, rfl, u1, us1, hus1, hu1, u2, us2, rfl, hu2, hnil⟩ := hv
  have hnil' : us2 = [] := hnil
  subst hnil'
  have hus : us = #[u1, u2] := Array.ext' hus1
  subst hus
  have hden : (AN.rc (D := DC) n 1 0).den = n := by
    show n * 1 + 0 = n
    omega
  -- the value, and the block that it stands in
  obtain ⟨r, p, c, e3, hle, hp, hadd⟩ : ∃ (r : Rb) (p : Option Addr) (c : Nat), u1 = .slice p n c ∧ n ≤ c ∧ (0 < n → p = some (r.ad 0)) ∧ WR w0 own (ρ ++ [r]) (h ++ [.rows 0 n [(.int k, F)]]) w' := by
    rcases hx with ⟨rfl, hx⟩ | ⟨b, t, wd, rfl, hb⟩
    · have : ∃ p, u1 = .slice p 0 0 := by
        rcases hx with rfl | ⟨b, rfl⟩
        · exact ⟨none, hu1⟩
        · obtain ⟨r, _, p, c, rfl, hc, _⟩ := hu1
          exact ⟨p, by rw [hc]; rfl⟩
      obtain ⟨p, rfl⟩ := this
      exact ⟨(0, 0, 0), p, 0, rfl, Nat.le_refl _, fun h0 => absurd h0 (Nat.lt_irrefl 0), H'.unreal _ (o := .rows 0 (0 : Nat) _) (fun h0 => absurd h0 (Nat.lt_irrefl 0)) rfl⟩
    · obtain ⟨r, hr, p, c, rfl, hc, ad, rfl, hcap⟩ := hu1
      rw [hden] at hc
      obtain ⟨vs, hvs', hown, hrows⟩ := Hw.obj _ _ _ hb hr
      refine ⟨r, _, c, by rw [hden], hc, fun h0 => ?_, ?_⟩
      · rcases hcap with h1 | ⟨h1, _⟩
        · omega
        · have : ad = 0 := h1
          rw [this]
      · have hnew := Hw.new _ _ _ hb rfl hr
        have hge : w.heap.size ≤ r.1 := by
          rcases hnew with h1 | h1
          · simp at h1
          · exact h1
        refine H'.add (fun j r' o' hj hr' hh => ?_) (fun _ => Hw.lt _ _ _ hb trivial hr) (fun h0 => by cases h0) (fun _ => ⟨vs, t, (0, 0), hvs', ?_⟩)
        · rcases hh with ⟨h1, _⟩ | ⟨h1, _⟩
          · cases h1
          · have := H.lt _ _ _ hj (AO.real_of_mine h1) hr'
            omega
        · rw [hown.2]
          exact hrows
  refine ⟨_, _, ρ ++ [r], rfl, e2, Ext.push _ _, ⟨_, rfl, _, _, rfl, ⟨r, by rw [← H.len]; simp, p, c, by rw [e3, hden], by rw [hden]; exact hle, fun h0 => hp (by rwa [hden] at h0)⟩, _, _, rfl, hu2, rfl⟩, hadd⟩
end
end Go.Proofs.Ytngcbpcfgolifaa.Ev
