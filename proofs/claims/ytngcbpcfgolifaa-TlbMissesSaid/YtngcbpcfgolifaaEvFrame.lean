/- A call over some blocks is a call over more: the other ones stay. Conditions: none. -/
import Derived.Test.YtngcbpcfgolifaaEvCov
namespace Go.Proofs.Ytngcbpcfgolifaa.Ev
open Go.RowKit
set_option linter.unusedVariables false
set_option linter.unusedSimpArgs false
section
variable {P : Program}

def up (υ : List (Option Nat)) (i : Nat) : Option Nat := (υ[i]?).join
theorem up_some {υ : List (Option Nat)} {i j : Nat} (h : up υ i = some j) : υ[i]? = some (some j) := by
  unfold up at h
  cases hu : υ[i]? with
  | none => rw [hu] at h; cases h
  | some x => rw [hu] at h; simp at h; rw [h]

/-- What ties the small memory behind the call, and the great one: 'υ' tells which block of the small one a block is; none: it is as it was. -/
structure Framed (τ : List Nat) (υ : List (Option Nat)) (h h1 hs hs1 : List (AO DC)) : Prop where
  len : υ.length = h1.length
  le : h.length ≤ h1.length
  keep : ∀ i : Nat, υ[i]? = some none → i < h.length ∧ h1[i]? = h[i]? ∧ ∀ j : Nat, τ[j]? = some i → ∀ o, h[i]? = some o → o.mine = false
  old : ∀ i j : Nat, i < h.length → υ[i]? = some (some j) → τ[j]? = some i ∧ ∃ o, h[i]? = some o ∧ o.mine = true
  new : ∀ (i : Nat) o, h.length ≤ i → h1[i]? = some o → o.real → o.mine = true
  obj : ∀ (i j : Nat) o, υ[i]? = some (some j) → h1[i]? = some o → o.real → ∃ x, hs1[j]? = some x ∧ covO (up υ) x o
  inj : ∀ (i i' j : Nat) o o', υ[i]? = some (some j) → υ[i']? = some (some j) → h1[i]? = some o → h1[i']? = some o' → o.mine = true → o'.real → i = i'

theorem frame {f : FuncId} {args args' : List (AV DC)} {h hs : List (AO DC)} {v v' : AV DC} {l l' : List (W DC)} (τ : List Nat) (υ : List (Option Nat))
    (hf : FnOk P f args' hs (v', l')) (hargs : covL (at' τ) args args') (hheap : covH (at' τ) h τ hs) (hinj : injB τ hs = true)
    (F : Framed τ υ h (({ slots := [], heap := h } : St DC).apps l).heap hs (({ slots := [], heap := hs } : St DC).apps l').heap) (hval : covV (up υ) v' v) : FnOk P f args h (v, l) := by
  intro w0 own ρ w vals H hvs
  generalize hh0 : (({ slots := [], heap := h } : St DC).apps l).heap = h1 at F
  generalize hh1 : (({ slots := [], heap := hs } : St DC).apps l').heap = hs1 at F
  obtain ⟨Hs, hvia⟩ := cov_wr (n0 := 0) hheap hinj H
  generalize hρs : (τ.map fun b => ρ.getD b (0, 0, 0)) = ρs at Hs hvia
  obtain ⟨c1, c2⟩ := covH_get τ hs hheap
  have hτ : ∀ {j i : Nat}, τ[j]? = some i → ∃ o r, h[i]? = some o ∧ ρ[i]? = some r ∧ ρs[j]? = some r := by
    intro j i hj
    have hlt : j < hs.length := by rw [← c1]; exact (List.getElem?_eq_some_iff.1 hj).1
    obtain ⟨x, hx, _⟩ := c2 j i _ hj (List.getElem?_eq_getElem hlt)
    obtain ⟨r, hr, _⟩ := H.block hx
    refine ⟨x, r, hx, hr, ?_⟩
    rw [← hρs, List.getElem?_map, hj]
    simp [List.getD, hr]
  -- what may be written
  obtain ⟨own', hown⟩ : ∃ own' : List Nat, ∀ b : Nat, b ∈ own' ↔ ∃ (j i : Nat) (o : AO DC) (r : Rb), τ[j]? = some i ∧ h[i]? = some o ∧ o.mine = true ∧ ρ[i]? = some r ∧ r.1 = b := by
    refine ⟨(τ.filter fun i => match h[i]? with | some o => o.mine | none => false).map fun i => (ρ.getD i (0, 0, 0)).1, fun b => ?_⟩
    simp only [List.mem_map, List.mem_filter]
    constructor
    · rintro ⟨i, ⟨hi, hm⟩, rfl⟩
      obtain ⟨j, hj⟩ := List.mem_iff_getElem?.1 hi
      obtain ⟨o, r, h1', h2', _⟩ := hτ hj
      rw [h1'] at hm
      exact ⟨j, i, o, r, hj, h1', hm, h2', by simp [List.getD, h2']⟩
    · rintro ⟨j, i, o, r, hj, ho, hm, hr, rfl⟩
      exact ⟨i, ⟨List.mem_iff_getElem?.2 ⟨j, hj⟩, by rw [ho]; exact hm⟩, by simp [List.getD, hr]⟩
  have hpin : Pin w own' := fun b vs hb => by
    obtain ⟨hn, a, t, fz, h1, h2⟩ := H.pin b vs hb
    have hlt : b < w0.heap.size := (Array.getElem?_eq_some_iff.1 h1).1
    refine ⟨fun hm => ?_, a, t, fz, by rw [H.frame b hlt hn]; exact h1, h2⟩
    obtain ⟨j, i, o, r, _, ho, hm2, hr, rfl⟩ := (hown _).1 hm
    rcases H.new _ _ _ ho hm2 hr with h | h
    · exact hn h
    · omega
  have Hs' : WR w own' ρs hs w := by
    refine ⟨Hs.len, Hs.inj, Hs.lt, fun j r o ho hm hr => .inl ?_, Hs.obj, fun _ _ _ => rfl, Nat.le_refl _, rfl, rfl, rfl, hpin⟩
    have hlt : j < τ.length := by rw [c1]; exact (List.getElem?_eq_some_iff.1 ho).1
    obtain ⟨x, hx, hc⟩ := c2 j _ o (List.getElem?_eq_getElem hlt) ho
    obtain ⟨o', r', h1', h2', h3'⟩ := hτ (List.getElem?_eq_getElem hlt)
    rw [hr] at h3'
    cases h3'
    exact (hown _).2 ⟨j, _, x, r, List.getElem?_eq_getElem hlt, hx, covO_mine hc hm, h2', rfl⟩
  refine (hf w own' ρs w vals Hs' (covL_rel hvia _ _ _ hargs hvs)).mono fun e w' hp => ?_
  obtain ⟨u, v1, ρs', e1, e2, hx, hv, Hw⟩ := hp
  cases e1
  simp only [] at Hw
  rw [hh1] at Hw
  -- where all blocks are then
  obtain ⟨ρ', hρlen, hρget⟩ : ∃ ρ' : List Rb, ρ'.length = h1.length ∧ ∀ i, i < h1.length → ρ'[i]? = some (match up υ i with | some j => ρs'.getD j (0, 0, 0) | none => ρ.getD i (0, 0, 0)) := by
    refine ⟨(List.range h1.length).map fun i => (match up υ i with | some j => ρs'.getD j (0, 0, 0) | none => ρ.getD i (0, 0, 0)), by simp, fun i hi => ?_⟩
    rw [List.getElem?_map, List.getElem?_range hi]
    rfl
  have split : ∀ i, i < h1.length → (∃ j, υ[i]? = some (some j) ∧ up υ i = some j) ∨ (υ[i]? = some none ∧ up υ i = none) := by
    intro i hi
    have hlt : i < υ.length := by rw [F.len]; exact hi
    have hu : υ[i]? = some υ[i] := List.getElem?_eq_getElem hlt
    cases hc : υ[i] with
    | none => right; rw [hc] at hu; exact ⟨hu, by unfold up; rw [hu]; rfl⟩
    | some j => left; rw [hc] at hu; exact ⟨j, hu, by unfold up; rw [hu]; rfl⟩
  have hsmall : ∀ {i j : Nat} {r : Rb}, i < h1.length → up υ i = some j → ρ'[i]? = some r → ∀ {x : AO DC}, hs1[j]? = some x → ρs'[j]? = some r := by
    intro i j r hi hj hr x hx'
    rw [hρget i hi, hj] at hr
    simp only [Option.some.injEq] at hr
    have hlt : j < ρs'.length := by rw [Hw.len]; exact (List.getElem?_eq_some_iff.1 hx').1
    rw [← hr]
    simp [List.getD, List.getElem?_eq_getElem hlt]
  have hgreat : ∀ {i : Nat} {r : Rb}, i < h.length → υ[i]? = some none → ρ'[i]? = some r → ρ[i]? = some r := by
    intro i r hi hj hr
    have hu : up υ i = none := by unfold up; rw [hj]; rfl
    rw [hρget i (Nat.lt_of_lt_of_le hi F.le), hu] at hr
    simp only [Option.some.injEq] at hr
    have hlt : i < ρ.length := by rw [H.len]; exact hi
    rw [← hr]
    simp [List.getD, List.getElem?_eq_getElem hlt]
  have hext : Ext ρ ρ' := by
    intro i r hr
    have hi : i < h.length := by rw [← H.len]; exact (List.getElem?_eq_some_iff.1 hr).1
    rw [hρget i (Nat.lt_of_lt_of_le hi F.le)]
    rcases split i (Nat.lt_of_lt_of_le hi F.le) with ⟨j, hj, hu⟩ | ⟨hj, hu⟩
    · obtain ⟨ht, _⟩ := F.old i j hi hj
      obtain ⟨o', r', h1', h2', h3'⟩ := hτ ht
      rw [hr] at h2'
      cases h2'
      have := hx _ _ h3'
      rw [hu]
      simp [List.getD, this]
    · rw [hu]
      simp [List.getD, hr]
  have hvia' : Via (up υ) ρs' ρ' := by
    intro i j r hu hr
    have hi : i < h1.length := by rw [← F.len]; exact (List.getElem?_eq_some_iff.1 (up_some hu)).1
    rw [hρget i hi, hu]
    simp [List.getD, hr]
  have hfrom : ∀ {i : Nat} {r : Rb} {o : AO DC}, h1[i]? = some o → ρ'[i]? = some r → o.real → (∃ j x, υ[i]? = some (some j) ∧ hs1[j]? = some x ∧ covO (up υ) x o ∧ ρs'[j]? = some r) ∨ (υ[i]? = some none ∧ i < h.length ∧ h[i]? = some o ∧ ρ[i]? = some r) := by
    intro i r o ho hr hreal
    have hi := (List.getElem?_eq_some_iff.1 ho).1
    rcases split i hi with ⟨j, hj, hu⟩ | ⟨hj, hu⟩
    · obtain ⟨x, hx', hc⟩ := F.obj i j o hj ho hreal
      exact .inl ⟨j, x, hj, hx', hc, hsmall hi hu hr hx'⟩
    · obtain ⟨k1, k2, k3⟩ := F.keep i hj
      exact .inr ⟨hj, k1, by rw [← k2]; exact ho, hgreat k1 hj hr⟩
  have hunown : ∀ {i : Nat} {r : Rb} {o : AO DC}, υ[i]? = some none → h[i]? = some o → o.real → ρ[i]? = some r → r.1 ∉ own' := by
    intro i r o hj ho hreal hr hm
    obtain ⟨k, i2, o2, r2, q1, q2, q3, q4, q5⟩ := (hown _).1 hm
    have := H.inj i2 i r2 r o2 o q2 ho q3 hreal q4 hr q5
    subst this
    rw [ho] at q2
    cases q2
    have := (F.keep i2 hj).2.2 k q1 o ho
    rw [this] at q3
    cases q3
  -- a block told by the small memory, its place among the old ones
  have hplace : ∀ {i j : Nat} {r : Rb} {o x : AO DC}, υ[i]? = some (some j) → h1[i]? = some o → o.real → hs1[j]? = some x → covO (up υ) x o → ρs'[j]? = some r → (r.1 ∈ own' ∨ w.heap.size ≤ r.1) ∨ (i < h.length ∧ ∃ o', h[i]? = some o' ∧ o'.mine = true ∧ ρ[i]? = some r) := by
    intro i j r o x hj ho hreal hxx hc hr
    rcases Nat.lt_or_ge i h.length with hi | hi
    · right
      obtain ⟨ht, o', ho', hm⟩ := F.old i j hi hj
      obtain ⟨_, r', _, h2', h3'⟩ := hτ ht
      have := hx _ _ h3'
      rw [hr] at this
      cases this
      exact ⟨hi, o', ho', hm, h2'⟩
    · left
      exact Hw.new j r x hxx (covO_mine hc (F.new i o hi ho hreal)) hr
  refine ⟨u, v, ρ', rfl, e2, hext, covV_rel hvia' v' v u hval hv, ?_⟩
  simp only []
  rw [hh0]
  refine ⟨hρlen, ?_, ?_, ?_, ?_, ?_, Nat.le_trans H.size Hw.size, Hw.os.trans H.os, Hw.tape.trans H.tape, Hw.output.trans H.output, H.pin⟩
  · intro i i' r r' o o' ho ho' hm hreal hr hr' e
    have hm' := AO.real_of_mine hm
    rcases hfrom ho hr hm' with ⟨j, x, a1, a2, a3, a4⟩ | ⟨a1, a2, a3, a4⟩ <;> rcases hfrom ho' hr' hreal with ⟨j', x', b1, b2, b3, b4⟩ | ⟨b1, b2, b3, b4⟩
    · have := Hw.inj j j' r r' x x' a2 b2 (covO_mine a3 hm) (covO_real b3 hreal) a4 b4 e
      subst this
      exact F.inj i i' j o o' a1 b1 ho ho' hm hreal
    · rcases hplace a1 ho hm' a2 a3 a4 with (hp | hp) | ⟨hp1, o2, hp2, hp3, hp4⟩
      · exact absurd (e ▸ hp) (hunown b1 b3 hreal b4)
      · have := H.lt _ _ _ b3 hreal b4; omega
      · exact H.inj i i' r r' o2 o' hp2 b3 hp3 hreal hp4 b4 e
    · rcases hplace b1 ho' hreal b2 b3 b4 with (hp | hp) | ⟨hp1, o2, hp2, hp3, hp4⟩
      · exact absurd (e ▸ hp) (hunown a1 a3 hm' a4)
      · have := H.lt _ _ _ a3 hm' a4; omega
      · exact H.inj i i' r r' o o2 a3 hp2 hm (AO.real_of_mine hp3) a4 hp4 e
    · exact H.inj i i' r r' o o' a3 b3 hm hreal a4 b4 e
  · intro i r o ho hreal hr
    rcases hfrom ho hr hreal with ⟨j, x, a1, a2, a3, a4⟩ | ⟨a1, a2, a3, a4⟩
    · exact Hw.lt _ _ _ a2 (covO_real a3 hreal) a4
    · exact Nat.lt_of_lt_of_le (H.lt _ _ _ a3 hreal a4) Hw.size
  · intro i r o ho hm hr
    rcases hfrom ho hr (AO.real_of_mine hm) with ⟨j, x, a1, a2, a3, a4⟩ | ⟨a1, a2, a3, a4⟩
    · rcases Hw.new _ _ _ a2 (covO_mine a3 hm) a4 with hp | hp
      · obtain ⟨k, i2, o2, r2, q1, q2, q3, q4, q5⟩ := (hown _).1 hp
        rw [← q5]
        exact H.new _ _ _ q2 q3 q4
      · right; have := H.size; omega
    · exact H.new _ _ _ a3 hm a4
  · intro i o r ho hr
    by_cases hreal : o.real
    · rcases hfrom ho hr hreal with ⟨j, x, a1, a2, a3, a4⟩ | ⟨a1, a2, a3, a4⟩
      · exact covO_rel hvia' a3 (Hw.obj _ _ _ a2 a4)
      · rw [Hw.frame _ (H.lt _ _ _ a3 hreal a4) (hunown a1 a3 hreal a4)]
        exact (H.obj _ _ _ a3 a4).mono hext
    · exact ORel.unreal hreal
  · intro b hb hn
    have hb' : b < w.heap.size := Nat.lt_of_lt_of_le hb H.size
    rw [Hw.frame b hb' fun hm => ?_]
    · exact H.frame b hb hn
    · obtain ⟨k, i2, o2, r2, q1, q2, q3, q4, q5⟩ := (hown _).1 hm
      rcases H.new _ _ _ q2 q3 q4 with hp | hp
      · exact hn (q5 ▸ hp)
      · omega

/-- Which of the small memory's blocks it is. -/
def idx : List Nat → Nat → Option Nat
  | [], _ => none
  | b :: l, i => bif Nat.beq b i then some 0 else (idx l i).map (· + 1)
theorem idx_some : ∀ (l : List Nat) (i j : Nat), idx l i = some j → l[j]? = some i
  | [], _, _, h => by cases h
  | b :: l, i, j, h => by
    simp only [idx] at h
    cases hb : Nat.beq b i <;> rw [hb] at h
    · simp only [cond_false, Option.map_eq_some_iff] at h
      obtain ⟨k, hk, rfl⟩ := h
      simpa using idx_some l i k hk
    · simp only [cond_true, Option.some.injEq] at h
      subst h
      have := Nat.eq_of_beq_eq_true hb
      subst this
      rfl
theorem idx_of : ∀ (l : List Nat) (i j : Nat), l.Nodup → l[j]? = some i → idx l i = some j
  | [], _, _, _, h => by simp at h
  | b :: l, i, j, hn, h => by
    simp only [idx]
    cases hb : Nat.beq b i
    · simp only [cond_false, Option.map_eq_some_iff]
      cases j with
      | zero => simp at h; subst h; simp at hb
      | succ j => exact ⟨j, idx_of l i j (List.nodup_cons.1 hn).2 (by simpa using h), rfl⟩
    · have := Nat.eq_of_beq_eq_true hb
      subst this
      cases j with
      | zero => rfl
      | succ j =>
        have : b ∈ l := List.mem_iff_getElem?.2 ⟨j, by simpa using h⟩
        exact absurd this (List.nodup_cons.1 hn).1
theorem idx_none : ∀ (l : List Nat) (i : Nat), idx l i = none → i ∉ l
  | [], _, _ => by simp
  | b :: l, i, h => by
    simp only [idx] at h
    cases hb : Nat.beq b i <;> rw [hb] at h
    · simp only [cond_false, Option.map_eq_none_iff] at h
      have := idx_none l i h
      have hne : ¬ i = b := fun e => by subst e; simp at hb
      simp [hne, this]
    · simp at h

/-- As 'frame', where no new block is told: the touched ones are turned, the other ones stay. -/
theorem frame_old {f : FuncId} {args args' : List (AV DC)} {h hs : List (AO DC)} {v v' : AV DC} {l l' : List (W DC)} (τ : List Nat)
    (hf : FnOk P f args' hs (v', l')) (hargs : covL (at' τ) args args') (hheap : covH (at' τ) h τ hs) (hinj : injB τ hs = true) (hnd : τ.Nodup)
    (hmine : ∀ (j i : Nat) o, τ[j]? = some i → h[i]? = some o → o.mine = true)
    (hlen : (({ slots := [], heap := h } : St DC).apps l).heap.length = h.length)
    (hother : ∀ i, i ∉ τ → (({ slots := [], heap := h } : St DC).apps l).heap[i]? = h[i]?)
    (hback : ∀ (j i : Nat) o, τ[j]? = some i → (({ slots := [], heap := h } : St DC).apps l).heap[i]? = some o → ∃ x, (({ slots := [], heap := hs } : St DC).apps l').heap[j]? = some x ∧ covO (idx τ) x o)
    (hval : covV (idx τ) v' v) : FnOk P f args h (v, l) := by
  obtain ⟨c1, c2⟩ := covH_get τ hs hheap
  have hlt : ∀ {j i : Nat}, τ[j]? = some i → i < h.length := by
    intro j i hj
    have : j < hs.length := by rw [← c1]; exact (List.getElem?_eq_some_iff.1 hj).1
    obtain ⟨x, hx, _⟩ := c2 j i _ hj (List.getElem?_eq_getElem this)
    exact (List.getElem?_eq_some_iff.1 hx).1
  have hget : ∀ i, i < h.length → ((List.range h.length).map (idx τ))[i]? = some (idx τ i) := fun i hi => by rw [List.getElem?_map, List.getElem?_range hi]; rfl
  have hout : ∀ i, ¬ i < h.length → ((List.range h.length).map (idx τ))[i]? = none := fun i hi => by rw [List.getElem?_eq_none_iff]; simp; omega
  have hup : up ((List.range h.length).map (idx τ)) = idx τ := by
    funext i
    unfold up
    by_cases hi : i < h.length
    · rw [hget i hi]; rfl
    · rw [hout i hi]
      cases hc : idx τ i with
      | none => rfl
      | some j => exact absurd (hlt (idx_some _ _ _ hc)) hi
  have hsome : ∀ {i j : Nat}, ((List.range h.length).map (idx τ))[i]? = some (some j) → τ[j]? = some i := by
    intro i j hu
    by_cases hi : i < h.length
    · rw [hget i hi] at hu
      simp only [Option.some.injEq] at hu
      exact idx_some _ _ _ hu
    · rw [hout i hi] at hu; cases hu
  refine frame τ ((List.range h.length).map (idx τ)) hf hargs hheap hinj ⟨by simp [hlen], Nat.le_of_eq hlen.symm, ?_, ?_, ?_, ?_, ?_⟩ (by rw [hup]; exact hval)
  · intro i hu
    by_cases hi : i < h.length
    · rw [hget i hi] at hu
      simp only [Option.some.injEq] at hu
      have hn := idx_none _ _ hu
      exact ⟨hi, hother i hn, fun j hj => absurd (List.mem_iff_getElem?.2 ⟨j, hj⟩) hn⟩
    · rw [hout i hi] at hu; cases hu
  · intro i j hi hu
    have ht := hsome hu
    exact ⟨ht, _, List.getElem?_eq_getElem hi, hmine j i _ ht (List.getElem?_eq_getElem hi)⟩
  · intro i o hi ho _
    have := (List.getElem?_eq_some_iff.1 ho).1
    omega
  · intro i j o hu ho _
    rw [hup]
    exact hback j i o (hsome hu) ho
  · intro i i' j o o' hu hu' _ _ _ _
    have h1 := hsome hu
    have h2 := hsome hu'
    rw [h1] at h2
    cases h2
    rfl

/-- A context with one function's summary more. -/
def Cx.sum (X : Cx DC) (f : FuncId) (g : List (AV DC) → List (AO DC) → Option (T DC (AV DC × List (W DC)))) : Cx DC :=
  { X with sums := fun f' args h => bif Nat.beq f' f then g args h else X.sums f' args h }
theorem Ok.sum {X : Cx DC} (hX : Ok P X) {f : FuncId} {g : List (AV DC) → List (AO DC) → Option (T DC (AV DC × List (W DC)))} (hb : (match P.funcs[f]? with | some fn => !fn.body.isNone | none => false) = true)
    (hg : ∀ args h t r, g args h = some t → t.pick = some r → FnOk P f args h r) : Ok P (X.sum f g) := by
  have hbody : ∃ fn, P.funcs[f]? = some fn ∧ fn.body.isNone = false := by
    split at hb
    · rename_i fn hf; exact ⟨fn, hf, by simpa using hb⟩
    · cases hb
  refine ⟨hX.mixed, hX.names, hX.load, hX.store, ?_, ?_, hX.blk, hX.opx⟩
  · intro f' args h t ht
    simp only [Cx.sum] at ht
    cases hf : Nat.beq f' f <;> rw [hf] at ht
    · exact hX.bodies f' args h t ht
    · have := Nat.eq_of_beq_eq_true hf
      subst this
      exact hbody
  · intro f' args h t r ht hr
    simp only [Cx.sum] at ht
    cases hf : Nat.beq f' f <;> rw [hf] at ht
    · exact hX.sums f' args h t r ht hr
    · have := Nat.eq_of_beq_eq_true hf
      subst this
      exact hg args h t r ht hr

/-- A context with one block's summary more. -/
def Cx.block (X : Cx DC) (f : FuncId) (id : Nat) (g : St DC → T DC (Ex DC × List (W DC))) : Cx DC :=
  { X with blk := fun f' i => bif Nat.beq f' f && Nat.beq i id then some g else X.blk f' i }
theorem Ok.block {X : Cx DC} (hX : Ok P X) {f : FuncId} {id : Nat} {g : St DC → T DC (Ex DC × List (W DC))} (h1 : oneLoop (blocksAt id (bodyOf P f)) = true)
    (hg : Within P f (.block id (.loop (loopAt P f id))) → ∀ s r, (g s).pick = some r → ∀ (w0 : World) (own : List Nat) (ρ : List Rb) (a : Act) (w : World), SR w0 own ρ s a w → (Code.block id (.loop (loopAt P f id))).wp P (CodePost w0 own ρ s r) a w) : Ok P (X.block f id g) := by
  refine ⟨hX.mixed, hX.names, hX.load, hX.store, hX.bodies, hX.sums, ?_, hX.opx⟩
  intro f' i g' hb c s r hw hr w0 own ρ a w H
  simp only [Cx.block] at hb
  cases hf : Nat.beq f' f && Nat.beq i id <;> rw [hf] at hb
  · exact hX.blk f' i g' hb c s r hw hr w0 own ρ a w H
  · simp only [Bool.and_eq_true] at hf
    have e1 := Nat.eq_of_beq_eq_true hf.1
    have e2 := Nat.eq_of_beq_eq_true hf.2
    subst e1 e2
    cases hb
    have := loop_of_within hw h1
    subst this
    exact hg hw s r hr w0 own ρ a w H
end
end Go.Proofs.Ytngcbpcfgolifaa.Ev
