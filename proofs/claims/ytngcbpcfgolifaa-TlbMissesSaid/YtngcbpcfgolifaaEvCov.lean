/- A state that says less than another one (blocks may be numbered anew); loops by what stays; a call over some blocks is a call over more. -/
import Derived.Test.YtngcbpcfgolifaaEvTop
namespace Go.Proofs.Ytngcbpcfgolifaa.Ev
open Go.RowKit
set_option linter.unusedVariables false
set_option linter.unusedSimpArgs false

/-! ### What says less. σ: which block of the first state a block of the second one is -/
def covCap : Cap DC → Cap DC → Prop
  | .kn a, .kn b => a.den = b.den
  | .un v, .un w => v = w
  | .any, .any => True
  | .un _, .any => True
  | .ge v _, .un w => v = w
  | .ge _ _, .any => True
  | .zero, .zero => True
  | _, _ => False

mutual
def covV (σ : Nat → Option Nat) : AV DC → AV DC → Prop
  | _, .dead => True
  | .undef, .undef => True
  | .bool a, .bool b => a.den = b.den
  | .int k a, .int k' b => k = k' ∧ a.den = b.den
  | .str s, .str t => s = t
  | .sstr f o n, .sstr g p m => nN n = nN m ∧ ∀ i, i < nN n → fF f (nN o + i) = fF g (nN p + i)
  | .map b, .map c => σ c = some b
  | .ptr b o, .ptr c p => σ c = some b ∧ o.den = p.den
  | .nilptr, .nilptr => True
  | .slice b o l k, .slice c p m j => σ c = some b ∧ o.den = p.den ∧ l.den = m.den ∧ covCap k j
  | .nilslice, .nilslice => True
  | .func fn f c, .func fn' f' c' => fn = fn' ∧ covL σ f f' ∧ covL σ c c'
  | .nilfunc, .nilfunc => True
  | .agg cs, .agg ds => covL σ cs ds
  | .tuple cs, .tuple ds => covL σ cs ds
  | _, _ => False
def covL (σ : Nat → Option Nat) : List (AV DC) → List (AV DC) → Prop
  | [], [] => True
  | x :: xs, y :: ys => covV σ x y ∧ covL σ xs ys
  | _, _ => False
end
/-- As many as there are of the second. -/
def covP (σ : Nat → Option Nat) : List (AV DC) → List (AV DC) → Prop
  | _, [] => True
  | x :: xs, y :: ys => covV σ x y ∧ covP σ xs ys
  | [], _ :: _ => False
def covC (n : Nat) : List (CK × (Nat → Int)) → List (CK × (Nat → Int)) → Prop
  | [], [] => True
  | (k, f) :: fs, (k', g) :: gs => k = k' ∧ (∀ i, i < n → f i = g i) ∧ covC n fs gs
  | _, _ => False
def covO (σ : Nat → Option Nat) : AO DC → AO DC → Prop
  | _, .gone => True
  | .cells t cs, .cells u ds => t = u ∧ covP σ cs ds
  | .rows _ n fs, .rows _ m gs => True ∧ nN n = nN m ∧ covC (nN n) fs gs
  | .arr t n fs, .arr u m gs => t = u ∧ nN n = nN m ∧ covC (nN n) fs gs
  | .cells t cs, .arr u m gs => t = u ∧ ∀ (i c : Nat) k g, i < nN m → gs[c]? = some (k, g) → ∃ x, cs[i * gs.length + c]? = some x ∧ covV (fun _ => none) x (colA (D := DC) k g i)
  | .map ks xs, .map ls ys => covL σ ks ls ∧ covL σ xs ys
  | _, _ => False

/-- Blocks of one are those of the other. -/
def Via (σ : Nat → Option Nat) (ρ ρ' : List Rb) : Prop := ∀ (c b : Nat) (r : Rb), σ c = some b → ρ[b]? = some r → ρ'[c]? = some r

theorem covCap_ok {k j : Cap DC} (h : covCap k j) {r : Rb} {off len : Nat} {p : Option Addr} {c : Nat} (hk : k.ok r off len p c) : j.ok r off len p c := by
  cases k <;> cases j <;> simp only [covCap] at h <;> first | (cases h; done) | exact hk | skip
  · exact ⟨by rw [← h]; exact hk.1, hk.2⟩
  · subst h; exact hk
  · obtain ⟨h1, a, rfl, h2⟩ := hk
    exact ⟨h1, fun h0 => by rcases h2 with h2 | ⟨rfl, _⟩; · omega
                            · rfl⟩
  · subst h
    exact ⟨hk.1, off, hk.2.2.1, .inr ⟨rfl, .inr hk.2.2.2⟩⟩
  · exact ⟨hk.1, fun _ => hk.2.2.1⟩

mutual
theorem covV_rel {σ : Nat → Option Nat} {ρ ρ' : List Rb} (hv : Via σ ρ ρ') : ∀ (x y : AV DC) (v : Value), covV σ x y → VRel ρ x v → VRel ρ' y v := by
  intro x y v h hx
  cases y
  case dead => trivial
  all_goals cases x <;> simp only [covV] at h <;> first | (cases h; done) | skip
  case undef.undef => exact hx
  case bool.bool a b => rw [VRel, ← h]; exact hx
  case int.int k a k' b => obtain ⟨rfl, h⟩ := h; rw [VRel, ← h]; exact hx
  case str.str => subst h; exact hx
  case sstr.sstr f o n g p m =>
    obtain ⟨s, rfl, h1, h2⟩ := hx
    refine ⟨s, rfl, h1.trans h.1, fun i hi => ?_⟩
    rw [h2 i hi]
    exact h.2 i (by omega)
  case map.map => obtain ⟨r, hr, e⟩ := hx; exact ⟨r, hv _ _ _ h hr, e⟩
  case ptr.ptr => obtain ⟨r, hr, e⟩ := hx; exact ⟨r, hv _ _ _ h.1 hr, by rw [← h.2]; exact e⟩
  case nilptr.nilptr => exact hx
  case slice.slice =>
    obtain ⟨r, hr, a, c, e, hk⟩ := hx
    obtain ⟨h1, h2, h3, h4⟩ := h
    exact ⟨r, hv _ _ _ h1 hr, a, c, by rw [← h3]; exact e, by rw [← h2, ← h3]; exact covCap_ok h4 hk⟩
  case nilslice.nilslice => exact hx
  case func.func fn' f' c' fn f c =>
    obtain ⟨rfl, h1, h2⟩ := h
    obtain ⟨f0, c0, e, k1, k2⟩ := hx
    exact ⟨f0, c0, e, covL_rel hv f f' _ h1 k1, covL_rel hv c c' _ h2 k2⟩
  case nilfunc.nilfunc => exact hx
  case agg.agg ds cs => obtain ⟨vs, e, k⟩ := hx; exact ⟨vs, e, covL_rel hv cs ds _ h k⟩
  case tuple.tuple ds cs => obtain ⟨vs, e, k⟩ := hx; exact ⟨vs, e, covL_rel hv cs ds _ h k⟩
theorem covL_rel {σ : Nat → Option Nat} {ρ ρ' : List Rb} (hv : Via σ ρ ρ') : ∀ (xs ys : List (AV DC)) (l : List Value), covL σ xs ys → VRels ρ xs l → VRels ρ' ys l
  | [], [], l, _, h => h
  | x :: xs, y :: ys, l, h, hx => by
    simp only [covL] at h
    obtain ⟨v, vs, rfl, h1, h2⟩ := hx
    exact ⟨v, vs, rfl, covV_rel hv x y v h.1 h1, covL_rel hv xs ys vs h.2 h2⟩
  | [], _ :: _, _, h, _ => by simp only [covL] at h
  | _ :: _, [], _, h, _ => by simp only [covL] at h
end

theorem covP_len {σ : Nat → Option Nat} : ∀ (xs ys : List (AV DC)), covP σ xs ys → ys.length ≤ xs.length
  | _, [], _ => Nat.zero_le _
  | x :: xs, y :: ys, h => by simp only [covP] at h; have := covP_len xs ys h.2; simp; exact this
  | [], _ :: _, h => by simp only [covP] at h
theorem covP_rel {σ : Nat → Option Nat} {ρ ρ' : List Rb} (hv : Via σ ρ ρ') : ∀ (xs ys : List (AV DC)) (l : List Value), covP σ xs ys → VRels ρ xs l → VRels ρ' ys (l.take ys.length)
  | _, [], l, _, h => by simp; exact VRels.nil
  | x :: xs, y :: ys, l, h, hx => by
    simp only [covP] at h
    obtain ⟨v, vs, rfl, h1, h2⟩ := hx
    exact ⟨v, vs.take ys.length, rfl, covV_rel hv x y v h.1 h1, covP_rel hv xs ys vs h.2 h2⟩
  | [], _ :: _, _, h, _ => by simp only [covP] at h
theorem covP_get {σ : Nat → Option Nat} : ∀ (xs ys : List (AV DC)) (i : Nat) (y : AV DC), covP σ xs ys → ys[i]? = some y → ∃ x, xs[i]? = some x ∧ covV σ x y
  | _, [], _, _, _, h => by simp at h
  | x :: xs, y :: ys, 0, z, h, hz => by simp only [covP] at h; simp at hz; subst hz; exact ⟨x, rfl, h.1⟩
  | x :: xs, y :: ys, i + 1, z, h, hz => by simp only [covP] at h; simpa using covP_get xs ys i z h.2 (by simpa using hz)
  | [], _ :: _, _, _, h, _ => by simp only [covP] at h

theorem covC_rel {n : Nat} {vs : Array Value} {L : Nat} : ∀ (fs gs : List (CK × (Nat → Int))), covC n fs gs → fs.length = gs.length ∧ ∀ (i c : Nat) k g, i < n → gs[c]? = some (k, g) → ∃ f, fs[c]? = some (k, f) ∧ f i = g i
  | [], [], _ => ⟨rfl, fun i c k g _ h => by simp at h⟩
  | (k, f) :: fs, (k', g) :: gs, h => by
    simp only [covC] at h
    obtain ⟨rfl, h1, h2⟩ := h
    obtain ⟨h3, h4⟩ := covC_rel (vs := vs) (L := L) fs gs h2
    refine ⟨by simp [h3], fun i c q q' hi hc => ?_⟩
    cases c with
    | zero => simp at hc; obtain ⟨rfl, rfl⟩ := hc; exact ⟨f, rfl, h1 i hi⟩
    | succ c => simpa using h4 i c q q' hi (by simpa using hc)
  | [], _ :: _, h => by simp only [covC] at h
  | (_, _) :: _, [], h => by simp only [covC] at h

theorem covO_rel {σ : Nat → Option Nat} {ρ ρ' : List Rb} (hv : Via σ ρ ρ') {r : Rb} {o o' : AO DC} {x : Option Obj} (h : covO σ o o') (ho : ORel ρ r o x) : ORel ρ' r o' x := by
  have rows : ∀ {n m : Nat} {fs gs : List (CK × (Nat → Int))} {vs : Array Value} {d : Nat}, n = m → covC n fs gs → RowsRel d n fs vs → RowsRel d m gs vs := by
    intro n m fs gs vs d e hc hr i c k g hi hg
    subst e
    obtain ⟨h1, h2⟩ := covC_rel (vs := vs) (L := 0) fs gs hc
    obtain ⟨f, hf, he⟩ := h2 i c k g hi hg
    rw [← h1, ← he]
    exact hr i c k f hi hf
  cases o' <;> cases o <;> simp only [covO] at h <;> first | (cases h; done) | trivial | skip
  · obtain ⟨rfl, h⟩ := h
    obtain ⟨vs, e, hs, hr⟩ := ho
    refine ⟨vs, e, hs, ?_⟩
    have := covP_rel hv _ _ _ h hr
    rw [List.take_take, Nat.min_eq_left (covP_len _ _ h)] at this
    exact this
  · obtain ⟨h0, h1, h2⟩ := h
    intro h0
    obtain ⟨vs, t, fz, e, hr⟩ := ho (by omega)
    exact ⟨vs, t, fz, e, rows h1 h2 hr⟩
  · obtain ⟨rfl, h⟩ := h
    obtain ⟨vs, e, hs, hr⟩ := ho
    refine ⟨vs, e, hs, fun i c k g hi hg => ?_⟩
    obtain ⟨x, hx, hc⟩ := h i c k g hi hg
    obtain ⟨v, hv, hr1⟩ := hr.get hx
    have hr2 := covV_rel (ρ := ρ) (ρ' := ρ) (fun _ _ _ h => by cases h) _ _ _ hc hr1
    rw [List.getElem?_take] at hv
    split at hv
    · rw [Nat.zero_add, ← Array.getElem?_toList, hv]
      cases k with
      | int k => rw [show v = .int k (g i) from hr2]; rfl
      | bool => rw [show v = .bool (litCmp .neq (g i) 0) from hr2]; rfl
    · cases hv
  · obtain ⟨rfl, h1, h2⟩ := h
    obtain ⟨vs, e, hs, hr⟩ := ho
    exact ⟨vs, e, hs, rows h1 h2 hr⟩
  · obtain ⟨es, cl, e, k1, k2⟩ := ho
    exact ⟨es, cl, e, covL_rel hv _ _ _ h.1 k1, covL_rel hv _ _ _ h.2 k2⟩

theorem covO_mine {σ : Nat → Option Nat} {o o' : AO DC} (h : covO σ o o') (hm : o'.mine = true) : o.mine = true := by
  cases o' <;> cases o <;> simp only [covO] at h <;> first | (cases h; done) | rfl | cases hm
theorem covO_real {σ : Nat → Option Nat} {o o' : AO DC} (h : covO σ o o') (hm : o'.real) : o.real := by
  cases o' <;> cases o <;> simp only [covO] at h <;> first | (cases h; done) | trivial | exact hm.elim | skip
  have := h.2.1
  simp only [AO.real] at hm ⊢
  omega

/-! ### States -/
def at' (l : List Nat) (b : Nat) : Option Nat := l[b]?
/-- Blocks one by one. -/
def covH (σ : Nat → Option Nat) (h : List (AO DC)) : List Nat → List (AO DC) → Prop
  | [], [] => True
  | b :: bs, o :: os => (match h[b]? with
    | some x => covO σ x o
    | none => False) ∧ covH σ h bs os
  | _, _ => False
def notIn (m : Bool) (b : Nat) : List Nat → List (AO DC) → Bool
  | c :: bs, o :: os => (bif (m && o.live) || o.mine then !(Nat.beq b c) else true) && notIn m b bs os
  | _, _ => true
def injB : List Nat → List (AO DC) → Bool
  | b :: bs, o :: os => (bif o.live then notIn o.mine b bs os else true) && injB bs os
  | _, _ => true
def lowB : Nat → Nat → List Nat → Bool
  | 0, _, _ => true
  | n + 1, i, b :: bs => Nat.beq b i && lowB n (i + 1) bs
  | _ + 1, _, [] => false

structure Cov (n0 : Nat) (l : List Nat) (s s' : St DC) : Prop where
  slots : covP (at' l) s.slots s'.slots
  heap : covH (at' l) s.heap l s'.heap
  inj : injB l s'.heap = true
  low : lowB n0 0 l = true

theorem lowB_get : ∀ (n i : Nat) (l : List Nat), lowB n i l = true → ∀ j, j < n → l[j]? = some (i + j)
  | 0, _, _, _, j, hj => by omega
  | n + 1, i, b :: bs, h, j, hj => by
    simp only [lowB, Bool.and_eq_true] at h
    have := Nat.eq_of_beq_eq_true h.1
    subst this
    cases j with
    | zero => rfl
    | succ j =>
      have := lowB_get n (b + 1) bs h.2 j (by omega)
      simp only [List.getElem?_cons_succ, this]
      congr 1
      omega
  | n + 1, _, [], h, _, _ => by simp [lowB] at h

theorem notIn_get {m : Bool} {b : Nat} : ∀ (l : List Nat) (os : List (AO DC)), notIn m b l os = true → ∀ (j c : Nat) o, l[j]? = some c → os[j]? = some o → ((m && o.live) || o.mine) = true → b ≠ c
  | [], _, _, j, c, o, h1, _, _ => by simp at h1
  | _ :: _, [], _, j, c, o, _, h2, _ => by simp at h2
  | d :: l, x :: os, h, 0, c, o, h1, h2, hl => by
    simp at h1 h2
    subst h1 h2
    simp only [notIn, hl, cond_true, Bool.and_eq_true] at h
    rintro rfl
    have := h.1
    simp at this
  | d :: l, x :: os, h, j + 1, c, o, h1, h2, hl => by
    simp only [notIn, Bool.and_eq_true] at h
    exact notIn_get l os h.2 j c o (by simpa using h1) (by simpa using h2) hl

theorem mine_live {o : AO DC} (h : o.mine = true) : o.live = true := by cases o <;> first | rfl | cases h
theorem injB_get : ∀ (l : List Nat) (os : List (AO DC)), injB l os = true → ∀ (i j b : Nat) o o', l[i]? = some b → l[j]? = some b → os[i]? = some o → os[j]? = some o' → o.mine = true → o'.live = true → i = j
  | [], _, _, i, j, b, o, o', h1, _, _, _, _, _ => by simp at h1
  | _ :: _, [], _, i, j, b, o, o', _, _, h2, _, _, _ => by simp at h2
  | d :: l, x :: os, h, 0, 0, _, _, _, _, _, _, _, _, _ => rfl
  | d :: l, x :: os, h, 0, j + 1, b, o, o', h1, h2, h3, h4, l1, l2 => by
    simp at h1 h3
    subst h1 h3
    simp only [injB, mine_live l1, cond_true, Bool.and_eq_true] at h
    exact absurd rfl (notIn_get l os h.1 j d o' (by simpa using h2) (by simpa using h4) (by rw [l1, l2]; rfl))
  | d :: l, x :: os, h, i + 1, 0, b, o, o', h1, h2, h3, h4, l1, l2 => by
    simp at h2 h4
    subst h2 h4
    simp only [injB, l2, cond_true, Bool.and_eq_true] at h
    exact absurd rfl (notIn_get l os h.1 i d o (by simpa using h1) (by simpa using h3) (by rw [l1]; simp))
  | d :: l, x :: os, h, i + 1, j + 1, b, o, o', h1, h2, h3, h4, l1, l2 => by
    simp only [injB, Bool.and_eq_true] at h
    have := injB_get l os h.2 i j b o o' (by simpa using h1) (by simpa using h2) (by simpa using h3) (by simpa using h4) l1 l2
    omega

theorem covH_get {σ : Nat → Option Nat} {h : List (AO DC)} : ∀ (l : List Nat) (os : List (AO DC)), covH σ h l os → l.length = os.length ∧ ∀ (i b : Nat) o, l[i]? = some b → os[i]? = some o → ∃ x, h[b]? = some x ∧ covO σ x o
  | [], [], _ => ⟨rfl, fun i b o h => by simp at h⟩
  | b :: bs, o :: os, hc => by
    simp only [covH] at hc
    obtain ⟨h1, h2⟩ := covH_get bs os hc.2
    refine ⟨by simp [h1], fun i c x hi hx => ?_⟩
    cases i with
    | zero =>
      simp at hi hx
      subst hi hx
      have := hc.1
      split at this
      · rename_i y hy; exact ⟨y, hy, this⟩
      · cases this
    | succ i => exact h2 i c x (by simpa using hi) (by simpa using hx)
  | [], _ :: _, h => by simp only [covH] at h
  | _ :: _, [], h => by simp only [covH] at h

section
variable {P : Program} {X : Cx DC} {w0 : World} {own : List Nat}
/-- The first blocks are the same. -/
def Agree (n0 : Nat) (ρ ρ' : List Rb) : Prop := ∀ i, i < n0 → ρ'[i]? = ρ[i]?
theorem Agree.refl (n0 : Nat) (ρ : List Rb) : Agree n0 ρ ρ := fun _ _ => rfl
theorem Agree.trans {n0 : Nat} {a b c : List Rb} (h : Agree n0 a b) (k : Agree n0 b c) : Agree n0 a c := fun i hi => (k i hi).trans (h i hi)

theorem cov_wr {n0 : Nat} {l : List Nat} {h h' : List (AO DC)} (hh : covH (at' l) h l h') (hi : injB l h' = true) {ρ : List Rb} {w : World} (H : WR w0 own ρ h w) :
    WR w0 own (l.map fun b => ρ.getD b (0, 0, 0)) h' w ∧ Via (at' l) ρ (l.map fun b => ρ.getD b (0, 0, 0)) := by
  obtain ⟨h1, h2⟩ := covH_get l h' hh
  have hget : ∀ {i : Nat} {r : Rb} {o : AO DC}, (l.map fun b => ρ.getD b (0, 0, 0))[i]? = some r → h'[i]? = some o → ∃ b x, l[i]? = some b ∧ ρ[b]? = some r ∧ h[b]? = some x ∧ covO (at' l) x o := by
    intro i r o hr ho
    rw [List.getElem?_map] at hr
    cases hb : l[i]? with
    | none => rw [hb] at hr; cases hr
    | some b =>
      rw [hb] at hr
      simp only [Option.map_some, Option.some.injEq] at hr
      obtain ⟨x, hx, hc⟩ := h2 i b o hb ho
      have hlt : b < ρ.length := by rw [H.len]; exact (List.getElem?_eq_some_iff.1 hx).1
      refine ⟨b, x, rfl, ?_, hx, hc⟩
      rw [← hr]
      simp [List.getD, List.getElem?_eq_getElem hlt]
  have hvia : Via (at' l) ρ (l.map fun b => ρ.getD b (0, 0, 0)) := by
    intro c b r hc hr
    have hc' : l[c]? = some b := hc
    rw [List.getElem?_map, hc']
    simp [List.getD, hr]
  refine ⟨⟨by simp [h1], ?_, ?_, ?_, ?_, H.frame, H.size, H.os, H.tape, H.output, H.pin⟩, hvia⟩
  · intro i j r r' o o' ho ho' l1 l2 hr hr' e
    obtain ⟨b, x, hb, hbr, hx, hc⟩ := hget hr ho
    obtain ⟨b', x', hb', hbr', hx', hc'⟩ := hget hr' ho'
    have := H.inj b b' r r' x x' hx hx' (covO_mine hc l1) (covO_real hc' l2) hbr hbr' e
    subst this
    exact injB_get l h' hi i j b o o' hb hb' ho ho' l1 (AO.live_of_real l2)
  · intro i r o ho hl hr
    obtain ⟨b, x, _, hbr, hx, hc⟩ := hget hr ho
    exact H.lt _ _ _ hx (covO_real hc hl) hbr
  · intro i r o ho hm hr
    obtain ⟨b, x, _, hbr, hx, hc⟩ := hget hr ho
    exact H.new _ _ _ hx (covO_mine hc hm) hbr
  · intro i o r ho hr
    obtain ⟨b, x, _, hbr, hx, hc⟩ := hget hr ho
    exact covO_rel hvia hc (H.obj _ _ _ hx hbr)

theorem cov_sr {n0 : Nat} {l : List Nat} {s s' : St DC} (hc : Cov n0 l s s') {ρ : List Rb} {a : Act} {w : World} (H : SR w0 own ρ s a w) (hn : n0 ≤ s.heap.length) :
    ∃ ρ', SR w0 own ρ' s' a w ∧ Agree n0 ρ ρ' := by
  obtain ⟨hw, hvia⟩ := cov_wr (n0 := n0) hc.heap hc.inj H.2
  refine ⟨_, ⟨⟨?_, fun t v ht => ?_, H.1.defers⟩, hw⟩, fun i hi => ?_⟩
  · have := covP_len _ _ hc.slots
    have := H.1.size
    omega
  · obtain ⟨x, hx, hcv⟩ := covP_get _ _ t v hc.slots ht
    exact covV_rel hvia x v _ hcv (H.1.rel t x hx)
  · have h1 := lowB_get n0 0 l hc.low i hi
    rw [Nat.zero_add] at h1
    rw [List.getElem?_map, h1]
    have hlt : i < ρ.length := by rw [H.2.len]; omega
    simp [List.getD, List.getElem?_eq_getElem hlt]

/-! ### Loops -/
/-- How one round ends: in a state of the family again, or out. -/
def RoundOk {G : Type} (S : G → St DC) (I : G → Prop) (m : G → Nat) (n0 : Nat) (Out : Ex DC → St DC → Prop) (g : G) (t : T DC (Ex DC × List (W DC))) : Prop :=
  ∃ r, t.pick = some r ∧ ((r.1 = .normal ∧ ∃ g' l, I g' ∧ m g' < m g ∧ Cov n0 l ((S g).apps r.2) (S g')) ∨ (r.1 ≠ .normal ∧ (∀ v, r.1 ≠ .val v) ∧ Out r.1 ((S g).apps r.2)))

theorem apps_heap_le : ∀ (l : List (W DC)) (s : St DC), s.heap.length ≤ (s.apps l).heap.length
  | [], _ => Nat.le_refl _
  | .slot _ _ :: l, s => apps_heap_le l (s.app (.slot _ _))
  | .cell b i v :: l, s => by have := apps_heap_le l (s.app (.cell b i v)); simp [St.app, setObj_length] at this; exact this
  | .obj b o :: l, s => by have := apps_heap_le l (s.app (.obj b o)); simp [St.app] at this; exact this
  | .new o :: l, s => by have := apps_heap_le l (s.app (.new o)); simp [St.app] at this; exact Nat.le_of_succ_le this

theorem loop_rounds {G : Type} {S : G → St DC} {I : G → Prop} {m : G → Nat} {n0 : Nat} {Out : Ex DC → St DC → Prop} {n : Nat} {f : FuncId} {c : Code} (hc : CodeOk P X w0 own n) (hi : Within P f c)
    (hn : ∀ g, I g → n0 ≤ (S g).heap.length) (step : ∀ g, I g → RoundOk S I m n0 Out g (ev P X f n (.code c) (S g))) :
    ∀ k g, I g → m g < k → ∀ ρ a w, SR w0 own ρ (S g) a w → Code.rounds P c (fun e a' w' => ∃ ρ' x s', Out x s' ∧ Agree n0 ρ ρ' ∧ n0 ≤ s'.heap.length ∧ ExR ρ' x (.exit e) ∧ SR w0 own ρ' s' a' w') k a w
  | 0, g, _, hm, _, _, _, _ => by omega
  | k + 1, g, hg, hm, ρ, a, w, H => by
    obtain ⟨r, h1, h2⟩ := step g hg
    rw [rounds_succ]
    refine Code.wp_mono (fun e a' w' hgd => ?_) (hc _ _ _ _ hi h1 ρ a w H)
    obtain ⟨ρ', g1, g2, g3⟩ := hgd
    have hag : Agree n0 ρ ρ' := fun i hi' => by
      have hlt : i < ρ.length := by rw [H.2.len]; have := hn g hg; omega
      rw [List.getElem?_eq_getElem hlt]
      exact g1 i _ (List.getElem?_eq_getElem hlt)
    have hle : n0 ≤ ((S g).apps r.2).heap.length := Nat.le_trans (hn g hg) (apps_heap_le _ _)
    rcases h2 with ⟨e1, g', l, hI, hlt, hcov⟩ | ⟨e1, e2, hout⟩
    · rw [e1] at g2
      rcases exitR g2 with ⟨_, rfl⟩ | ⟨i, e, _⟩ | ⟨e, _⟩
      · obtain ⟨ρ2, H2, ha2⟩ := cov_sr hcov g3 hle
        refine rounds_mono (fun e a w hq => ?_) k _ _ (loop_rounds hc hi hn step k g' hI (by omega) ρ2 a' w' H2)
        obtain ⟨ρ3, x, s', q1, q2, q3, q4⟩ := hq
        exact ⟨ρ3, x, s', q1, (hag.trans ha2).trans q2, q3, q4⟩
      · cases e
      · cases e
    · rcases exitR g2 with ⟨e, rfl⟩ | ⟨i, e, rfl⟩ | ⟨e, rfl⟩
      · exact absurd e e1
      · exact ⟨ρ', r.1, _, hout, hag, hle, g2, g3⟩
      · exact ⟨ρ', r.1, _, hout, hag, hle, g2, g3⟩

/-- A block that is a loop: from a state that the family covers, to one that covers every way out. -/
theorem block_loop {G : Type} {S : G → St DC} {I : G → Prop} {m : G → Nat} {Out : Ex DC → St DC → Prop} {n : Nat} {f : FuncId} {id : Nat} {c : Code} (hc : CodeOk P X w0 own n) (hi : Within P f (.block id (.loop c))) {s : St DC} {r : Ex DC × List (W DC)} {g : G} {l : List Nat}
    (hI : I g) (hcov : Cov s.heap.length l s (S g)) (hn : ∀ g, I g → s.heap.length ≤ (S g).heap.length) (step : ∀ g, I g → RoundOk S I m s.heap.length Out g (ev P X f n (.code c) (S g)))
    (hout : ∀ x s', Out x s' → ∃ l1 s1 l2, Cov s.heap.length l1 s' s1 ∧ s.heap.length ≤ s1.heap.length ∧ Cov s.heap.length l2 s1 (s.apps r.2) ∧ ((x = .exit id ∧ r.1 = .normal) ∨ (x = r.1 ∧ x ≠ .exit id ∧ x ≠ .normal ∧ ∀ v, x ≠ .val v)))
    {ρ : List Rb} {a : Act} {w : World} (H : SR w0 own ρ s a w) : (Code.block id (.loop c)).wp P (CodePost w0 own ρ s r) a w := by
  obtain ⟨ρ1, H1, ha1⟩ := cov_sr hcov H (Nat.le_refl _)
  have hw := hi.sub (.block (.loop (.refl c)))
  have := loop_rounds hc hw hn step (m g + 1) g hI (Nat.lt_succ_self _) ρ1 a w H1
  refine wp_block (wp_loop_rounds (m g + 1) (rounds_mono (fun e a' w' hq => ?_) _ _ _ this))
  obtain ⟨ρ2, x, s', q1, q2, q3, q4, q5⟩ := hq
  obtain ⟨l1, s1, l2, hc1, hs1, hc2, hx⟩ := hout x s' q1
  obtain ⟨ρ4, H4, ha4⟩ := cov_sr hc1 q5 q3
  obtain ⟨ρ3, H3, ha3'⟩ := cov_sr hc2 H4 hs1
  have ha3 := ha4.trans ha3'
  have hext : Ext ρ ρ3 := fun b rb hb => by
    have hlt : b < s.heap.length := by rw [← H.2.len]; exact (List.getElem?_eq_some_iff.1 hb).1
    rw [((ha1.trans q2).trans ha3) b hlt]
    exact hb
  rcases hx with ⟨rfl, e2⟩ | ⟨rfl, e1, e2, e3⟩
  · rcases exitR q4 with ⟨e, _⟩ | ⟨i, e, rfl⟩ | ⟨e, _⟩
    · cases e
    · cases e
      simp only [Exit.inBlock, if_pos]
      exact ⟨ρ3, hext, by rw [e2]; trivial, H3⟩
    · cases e
  · rcases exitR q4 with ⟨e, _⟩ | ⟨i, e, rfl⟩ | ⟨e, rfl⟩
    · exact absurd e e2
    · have hne : ¬ i = id := fun h => by subst h; exact e1 e
      simp only [Exit.inBlock, if_neg hne]
      exact ⟨ρ3, hext, ExR.any e3 q4, H3⟩
    · exact ⟨ρ3, hext, ExR.any e3 q4, H3⟩

/-- All bodies of blocks of a number. -/
def blocksAt (id : Nat) : Code → List Code
  | .seq a b => blocksAt id a ++ blocksAt id b
  | .cond _ a b => blocksAt id a ++ blocksAt id b
  | .block i a => bif Nat.beq i id then a :: blocksAt id a else blocksAt id a
  | .loop a => blocksAt id a
  | .scope a => blocksAt id a
  | _ => []
theorem mem_blocksAt {id : Nat} {c b : Code} (h : Sub c b) : ∀ a, c = .block id a → a ∈ blocksAt id b := by
  induction h with
  | refl => rintro a rfl; simp [blocksAt]
  | seqL _ ih => exact fun a e => List.mem_append_left _ (ih a e)
  | seqR _ ih => exact fun a e => List.mem_append_right _ (ih a e)
  | condL _ ih => exact fun a e => List.mem_append_left _ (ih a e)
  | condR _ ih => exact fun a e => List.mem_append_right _ (ih a e)
  | @block c1 i h ih =>
    intro a e
    simp only [blocksAt]
    cases Nat.beq i id
    · exact ih a e
    · exact List.mem_cons_of_mem _ (ih a e)
  | loop _ ih => exact ih
  | scope _ ih => exact ih
def bodyOf (P : Program) (f : FuncId) : Code := match P.funcs[f]? with
  | some fn => fn.body.getD .skip
  | none => .skip
theorem within_blocks {f : FuncId} {id : Nat} {c : Code} (h : Within P f (.block id c)) : c ∈ blocksAt id (bodyOf P f) := by
  obtain ⟨fn, b, h1, h2, h3⟩ := h
  have : bodyOf P f = b := by unfold bodyOf; rw [h1]; simp [h2]
  rw [this]
  exact mem_blocksAt h3 c rfl
/-- The one loop in a block. -/
def loopAt (P : Program) (f : FuncId) (id : Nat) : Code := match blocksAt id (bodyOf P f) with
  | [.loop c] => c
  | _ => .skip
def oneLoop : List Code → Bool
  | [.loop _] => true
  | _ => false
theorem loop_of_within {f : FuncId} {id : Nat} {c : Code} (h : Within P f (.block id c)) (h1 : oneLoop (blocksAt id (bodyOf P f)) = true) : c = .loop (loopAt P f id) := by
  have hm := within_blocks h
  unfold loopAt
  generalize blocksAt id (bodyOf P f) = l at *
  match l, h1 with
  | [.loop d], _ => simpa using hm

/-! ### A call over some blocks is one over more -/
def FnOk (P : Program) (f : FuncId) (args : List (AV DC)) (h : List (AO DC)) (r : AV DC × List (W DC)) : Prop :=
  ∀ (w0 : World) (own : List Nat) (ρ : List Rb) (w : World) (vals : List Value), WR w0 own ρ h w → VRels ρ args vals → Calls P f vals.toArray w (CallPost w0 own ρ h (.val r.1, r.2))

theorem fn_ok (hX : Ok P X) {n : Nat} {f : FuncId} {args : List (AV DC)} {h : List (AO DC)} {r : AV DC × List (W DC)} (hr : (call P X n f args h).pick = some (.val r.1, r.2)) : FnOk P f args h r :=
  fun w0 own ρ w vals H hv => call_sound hX hr H hv

/-- A value, and no block of before turned. -/
theorem fn_drop {f : FuncId} {args : List (AV DC)} {h : List (AO DC)} {v v' : AV DC} {l : List (W DC)} (hf : FnOk P f args h (v, l)) (hl : l.all isNew = true) (hs : v.solid h.length = true) (hv : covV some v v') : FnOk P f args h (v', []) := by
  intro w0 own ρ w vals H hvs
  refine (hf w0 own ρ w vals H hvs).mono fun e w' hp => ?_
  obtain ⟨u, v1, ρ', e1, e2, g2, g3, g4⟩ := hp
  cases e1
  have g3' := den_low hs g2 H.len g3
  obtain ⟨t, ht⟩ := news_heap l { slots := [], heap := h } hl
  simp only [] at g4
  rw [ht] at g4
  exact ⟨u, v', ρ, rfl, e2, Ext.refl _, covV_rel (fun c b r hc hr => by cases hc; exact hr) v v' u hv g3', g4.old g2 H.len H⟩
end
end Go.Proofs.Ytngcbpcfgolifaa.Ev
