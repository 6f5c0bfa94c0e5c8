/- A region that draws its order, of quiet operations and of one store to a block that no other one of them reads: one walk serves every order, the store last. After the library's own text on quiet operations. -/
import Derived.StillTail
import Derived.Deep.Quiet
namespace Go
section
variable {P : Program} {ops : Array Oper} {md : Region.Mode} {C : World → Prop}

/-- Kinds of operations that call nothing and leave memory alone. -/
def Oper.calm (o : Oper) : Bool := match o.op with
  | .move _ | .assign _ | .load _ _ | .fieldAddr _ _ _ | .field _ _ _ | .binOp _ _ _ _ _ | .pick _ _ _ | .convert _ _ _ | .unOp _ _ _ => true
  | _ => false

theorem calm_run {o : Oper} (h : o.calm = true) (ev : Operand → Value) (w : World) : ∀ f args w', (execOp ev o).run P w ≠ .ok (.enter f args) w' := by
  intro f args w' e
  obtain ⟨dst, op, type, pos, after, guard⟩ := o
  cases op <;> first | (cases h; done) | skip
  all_goals simp only [execOp] at e
  all_goals first
    | (simp only [Sem.run_pure, Result.ok.injEq] at e; cases e.1; done)
    | (simp only [Sem.run_bind] at e
       unfold Result.andThen at e
       split at e <;> simp at e)
    | (simp at e; split at e <;> simp at e)

theorem wpOp_of_calm {i : Nat} {o : Oper} {a : Act} {K : Act → Prop} {K' : Act → World → Prop} {Q' : Exit → Act → World → Prop} {w : World} (ho : ops[i]? = some o) (hc : o.calm = true) (hC : C w) (h : ∀ a, K a → K' a w) (hh : qOp P ops C i K a) : wpOp P ops Q' i K' a w := by
  unfold qOp at hh
  unfold wpOp
  simp only [ho] at hh ⊢
  split
  · rename_i hw
    simp only [hw, if_true] at hh
    refine .inl ?_
    obtain ⟨v, h1, h2⟩ := hh
    have h3 := h1 w hC
    have hn := calm_run (P := P) hc a.eval w
    unfold Oper.quietAt at h3
    unfold Oper.wp
    generalize (execOp a.eval o).run P w = r at *
    cases r with
    | ok n w' =>
      cases n <;> simp only [Oper.quietUpon] at h3 <;> simp only [Oper.upon]
      case value u =>
        obtain ⟨e1, e2⟩ := h3
        rw [e1, e2]
        exact h _ h2
      case skip =>
        obtain ⟨e1, e2⟩ := h3
        rw [e1, ← e2]
        exact h _ h2
      case enter f args => exact absurd rfl (hn f args w')
    | halt x w' => simp only [Oper.quietUpon] at h3
  · rename_i hw
    simp only [hw] at hh
    exact h _ hh

/-- Quiet operations that end with one frame, and call nothing: the world at the end is that at the beginning. -/
theorem wpAny_calm {e : Act} {Q' : Exit → Act → World → Prop} {w : World} {k : Nat} (hc : ∀ i o, ops[i]? = some o → i ≠ k → o.calm = true) (hC : C w) (hQ : Q' .normal e w) :
    ∀ (fuel : Nat) (listed : Array Bool) (a : Act), listed.getD k true = true → wpAnyQ P md ops C (fun a' => a' = e) fuel listed a → wpAny P md ops Q' fuel listed a w
  | 0, _, _, _, h => ⟨h.1, by rw [h.2]; exact hQ⟩
  | fuel + 1, listed, a, hk, h => by
    refine ⟨fun h0 => by rw [h.1 h0]; exact hQ, fun i hi => ?_⟩
    obtain ⟨hun, o, ho, _⟩ := mem_ready.1 hi
    have hik : i ≠ k := fun e => by subst e; rw [hk] at hun; cases hun
    exact wpOp_of_calm ho (hc i o ho hik) hC (fun a' => wpAny_calm hc hC hQ fuel _ a' (by rw [getD_set_ne true hik]; exact hk)) (h.2 i hi)

theorem eval_stable {e : Act} {d : Tmp} : ∀ (fuel : Nat) (listed : Array Bool) (a : Act), (∀ j oj, ops[j]? = some oj → listed.getD j true = false → oj.dst ≠ some d) →
    wpAnyQ P md ops C (fun a' => a' = e) fuel listed a → a.eval (.tmp d) = e.eval (.tmp d)
  | 0, _, _, _, h => by rw [h.2]
  | fuel + 1, listed, a, hf, h => by
    cases hr : Region.ready md ops listed with
    | nil => rw [h.1 hr]
    | cons i is =>
      have hi : i ∈ Region.ready md ops listed := by rw [hr]; simp
      obtain ⟨hun, o, ho, _⟩ := mem_ready.1 hi
      obtain ⟨v, _, hv⟩ := yieldsIn_of_qOp ho (h.2 i hi)
      have := eval_stable fuel _ _ (fun j oj hj hl => hf j oj hj (by
        by_cases hij : i = j
        · subst hij; exact hun
        · rw [getD_set_ne true hij] at hl; exact hl)) hv
      rw [← this]
      exact (Act.eval_put fun d' hd' he => hf i o ho hun (by cases he; exact hd')).symm

/-- An operand that the region's other operations leave alone, once those that this one waits for are done. -/
def Region.steady (md : Region.Mode) (ops : Array Oper) (k : Nat) (x : Operand) : Bool := match x with
  | .tmp d => (List.range ops.size).all fun j => match ops[j]? with
    | some oj => j == k || oj.dst != some d || Region.waitsFor md ops k j
    | none => true
  | _ => true

/-- Each waits for earlier ones alone. -/
def Region.forward (md : Region.Mode) (ops : Array Oper) : Bool := (List.range ops.size).all fun j => match ops[j]? with
  | some oj => oj.after.all fun e => !Region.binds md e || decide (e.on < j)
  | none => true

theorem eval_steady {e : Act} {k : Nat} {ok : Oper} {x : Operand} (hk : ops[k]? = some ok) (hd : ok.dst = none) (hs : Region.steady md ops k x = true) {fuel : Nat} {listed : Array Bool} {a : Act} (hr : k ∈ Region.ready md ops listed)
    (h : wpAnyQ P md ops C (fun a' => a' = e) fuel (listed.setIfInBounds k true) a) (hz : ∀ y : Operand, (∀ d, y ≠ .tmp d) → a.eval y = e.eval y) : a.eval x = e.eval x := by
  cases x with
  | tmp d =>
    refine eval_stable fuel _ a (fun j oj hj hl hdst => ?_) h
    have hjl := (Array.getElem?_eq_some_iff.1 hj).1
    unfold Region.steady at hs
    have h1 := List.all_eq_true.1 hs j (List.mem_range.2 hjl)
    simp only [hj, Bool.or_eq_true, beq_iff_eq, bne_iff_ne, ne_eq] at h1
    rcases h1 with (h1 | h1) | h1
    · subst h1
      rw [hk] at hj
      cases hj
      rw [hd] at hdst
      cases hdst
    · exact h1 hdst
    · obtain ⟨o', ho', e', he, hb, hon⟩ := Region.waitsFor_spec h1
      obtain ⟨hun, o2, ho2, hall⟩ := mem_ready.1 hr
      rw [ho'] at ho2
      cases ho2
      have h2 := hall e' he hb
      rw [hon] at h2
      have h3 := getD_set_true (i := k) h2
      rw [getD_both hl] at h3
      cases h3
  | _ => exact hz _ (fun d e => by cases e)

theorem ready_ne {k : Nat} (hf : Region.forward md ops = true) : ∀ (n : Nat) (listed : Array Bool), k < n → listed.size = ops.size → k < ops.size → listed.getD k true = false → Region.ready md ops listed ≠ [] := by
  intro n
  induction n generalizing k with
  | zero => intro _ h; omega
  | succ n ih =>
    intro listed hkn hsz hkl hun h0
    have hk : ops[k]? = some ops[k] := Array.getElem?_eq_getElem hkl
    by_cases hall : ∀ e ∈ ops[k].after, Region.binds md e = true → listed.getD e.on false = true
    · have : k ∈ Region.ready md ops listed := mem_ready.2 ⟨hun, _, hk, hall⟩
      rw [h0] at this
      cases this
    · have ⟨e, he⟩ := Classical.not_forall.1 hall
      have ⟨he1, he2⟩ := Classical.not_imp.1 he
      have ⟨hb, hl⟩ := Classical.not_imp.1 he2
      unfold Region.forward at hf
      have h1 := List.all_eq_true.1 hf k (List.mem_range.2 hkl)
      simp only [hk] at h1
      have h2 := Array.all_eq_true_iff_forall_mem.1 h1 e he1
      simp only [hb, Bool.not_true, Bool.false_or, decide_eq_true_eq] at h2
      have h3 : listed.getD e.on false = false := by simpa using hl
      exact ih listed (k := e.on) (by omega) hsz (by omega) (getD_in (by omega) h3) h0

/-- The store, at whatever place of the order. -/
theorem wpAny_aside {e : Act} {Q' : Exit → Act → World → Prop} {w1 w2 : World} {k : Nat} {ok : Oper} {x y : Operand} (hk : ops[k]? = some ok) (hd : ok.dst = none) (hg : ok.guard = none) (hx : Region.steady md ops k x = true) (hy : Region.steady md ops k y = true)
    (hf : Region.forward md ops = true) (hc : ∀ i o, ops[i]? = some o → i ≠ k → o.calm = true) (hC1 : C w1) (hC2 : C w2) (hQ : Q' .normal e w2)
    (hz : ∀ (a : Act) (y : Operand), (∀ d, y ≠ .tmp d) → a.eval y = e.eval y)
    (hst : ∀ a : Act, a.eval x = e.eval x → a.eval y = e.eval y → (∃ u, (execOp a.eval ok).run P w1 = .ok (.value u) w2) ∨ (execOp a.eval ok).run P w1 = .ok .skip w2) :
    ∀ (fuel : Nat) (listed : Array Bool) (a : Act), listed.size = ops.size → listed.getD k true = false → wpAnyQ P md ops C (fun a' => a' = e) fuel (listed.setIfInBounds k true) a → wpAny P md ops Q' (fuel + 1) listed a w1 := by
  have hkl : k < ops.size := (Array.getElem?_eq_some_iff.1 hk).1
  intro fuel
  induction fuel with
  | zero =>
    intro listed a hsz hun h
    refine ⟨fun h0 => absurd h0 (ready_ne hf (k + 1) listed (by omega) hsz hkl hun), fun i hi => ?_⟩
    by_cases hik : i = k
    · subst hik
      have e1 := eval_steady hk hd hx hi h (hz a)
      have e2 := eval_steady hk hd hy hi h (hz a)
      have hw : Region.wanted ok (yielded ops a.tmps) = true := by simp [Region.wanted, hg]
      unfold wpOp
      simp only [hk, hw, if_true]
      refine .inl ?_
      unfold Oper.wp
      rcases hst a e1 e2 with ⟨u, h1⟩ | h1 <;> rw [h1] <;> simp only [Oper.upon, hd]
      all_goals exact wpAny_calm (k := i) hc hC2 hQ 0 _ _ (by simp [hsz, hkl]) h
    · have := ready_mono hi hik
      rw [h.1] at this
      cases this
  | succ fuel ih =>
    intro listed a hsz hun h
    refine ⟨fun h0 => absurd h0 (ready_ne hf (k + 1) listed (by omega) hsz hkl hun), fun i hi => ?_⟩
    by_cases hik : i = k
    · subst hik
      have e1 := eval_steady hk hd hx hi h (hz a)
      have e2 := eval_steady hk hd hy hi h (hz a)
      have hw : Region.wanted ok (yielded ops a.tmps) = true := by simp [Region.wanted, hg]
      unfold wpOp
      simp only [hk, hw, if_true]
      refine .inl ?_
      unfold Oper.wp
      rcases hst a e1 e2 with ⟨u, h1⟩ | h1 <;> rw [h1] <;> simp only [Oper.upon, hd]
      all_goals exact wpAny_calm (k := i) hc hC2 hQ _ _ _ (by simp [hsz, hkl]) h
    · obtain ⟨_, o, ho, _⟩ := mem_ready.1 hi
      refine wpOp_of_calm ho (hc i o ho hik) hC1 (fun a' h' => ih _ a' (by simp [hsz]) (by rw [getD_set_ne true hik]; exact hun) ?_) (h.2 i (ready_mono hi hik))
      rw [Array.setIfInBounds_comm _ _ hik]
      exact h'

/-! ### One order for all -/
def Region.lexL (md : Region.Mode) (ops : Array Oper) : List Nat → Array Bool → Bool
  | [], listed => (Region.ready md ops listed).isEmpty
  | i :: is, listed => (Region.ready md ops listed).contains i && Region.free md ops listed i && Region.lexL md ops is (listed.setIfInBounds i true)

theorem wpAnyQ_lexL {Q : Act → Prop} (hs : Region.noSelect ops = true) : ∀ (is : List Nat) (listed : Array Bool) (a : Act), (∀ i ∈ is, i < ops.size) → Region.lexL md ops is listed = true →
    wpQuiet P ops C Q (is.filterMap fun i => ops[i]?) a → wpAnyQ P md ops C Q is.length listed a
  | [], _, _, _, hB, h => ⟨by simpa [Region.lexL] using hB, h⟩
  | i :: is, listed, a, hl, hB, h => by
    have h0 : ops[i]? = some ops[i]! := by
      have := hl i (by simp)
      simp [this]
    simp only [Region.lexL, Bool.and_eq_true] at hB
    obtain ⟨⟨hr, hf⟩, hB'⟩ := hB
    rw [List.filterMap_cons, h0] at h
    have hst : qOp P ops C i (wpQuiet P ops C Q (is.filterMap fun i => ops[i]?)) a := by unfold qOp; simp only [h0]; exact h
    obtain ⟨v, hy, hK⟩ := yieldsIn_of_qOp h0 hst
    exact wpAnyQ_first h0 (Region.noSelect_spec hs) is.length listed a (Region.free_spec h0 hf) (by simpa using hr) hy
      (wpAnyQ_lexL hs is _ _ (fun j hj => hl j (by simp [hj])) hB' hK)

/-- The frame at the end. -/
theorem wpQuiet_end {L : Act → Prop} : ∀ (l : List Oper) (a : Act), wpQuiet P ops C L l a → ∃ e, wpQuiet P ops C (fun a' => a' = e) l a ∧ L e
  | [], a, h => ⟨a, rfl, h⟩
  | o :: l, a, h => by
    unfold wpQuiet at h ⊢
    split at h
    · rename_i hw
      obtain ⟨v, h1, h2⟩ := h
      obtain ⟨e, h3, h4⟩ := wpQuiet_end l _ h2
      exact ⟨e, by rw [if_pos hw]; exact ⟨v, h1, h3⟩, h4⟩
    · rename_i hw
      obtain ⟨e, h3, h4⟩ := wpQuiet_end l _ h
      exact ⟨e, by rw [if_neg hw]; exact h3, h4⟩

def Region.rest (ops : Array Oper) (k : Nat) : List Nat := (List.range ops.size).filter fun i => !(i == k)
def Region.restOps (ops : Array Oper) (k : Nat) : List Oper := (Region.rest ops k).filterMap fun i => ops[i]?

/-- One store, at 'k', beside operations that are quiet and call nothing. -/
def Region.asideB (md : Region.Mode) (ops : Array Oper) (k : Nat) : Bool := match ops[k]? with
  | some ok => match ok.op with
    | .store _ x y => Region.noSelect ops && ok.dst.isNone && ok.guard.isNone && Region.steady md ops k x && Region.steady md ops k y && Region.forward md ops
      && ((List.range ops.size).all fun i => i == k || match ops[i]? with
        | some o => o.calm
        | none => true)
      && decide ((Region.rest ops k).length + 1 = ops.size)
      && Region.lexL md ops (Region.rest ops k) ((Array.replicate ops.size false).setIfInBounds k true)
    | _ => false
  | none => false

theorem wp_region_aside {id k : Nat} {ok : Oper} {Q : Exit → Act → World → Prop} {a : Act} {w : World} {L : Act → Prop} (hm : P.follows .mixedOrders = true) (hB : Region.asideB .any ops k = true) (hk : ops[k]? = some ok) (hC : C { w with drawn := w.drawn + 1 })
    (h : wpQuiet P ops C L (Region.restOps ops k) a)
    (hst : ∀ e, L e → ∃ w2, C w2 ∧ Q .normal e w2 ∧ ((∃ u, (execOp e.eval ok).run P { w with drawn := w.drawn + 1 } = .ok (.value u) w2) ∨ (execOp e.eval ok).run P { w with drawn := w.drawn + 1 } = .ok .skip w2))
    (hz : ∀ (a e : Act) (y : Operand), (∀ d, y ≠ .tmp d) → a.eval y = e.eval y) :
    (Code.region id ops true).wp P Q a w := by
  unfold Region.asideB at hB
  rw [hk] at hB
  simp only [] at hB
  split at hB
  · rename_i t x y hop
    simp only [Bool.and_eq_true, decide_eq_true_eq, Option.isNone_iff_eq_none] at hB
    obtain ⟨⟨⟨⟨⟨⟨⟨⟨hs, hd⟩, hg⟩, hx⟩, hy⟩, hf⟩, hc⟩, hlen⟩, hlex⟩ := hB
    obtain ⟨e, h1, h2⟩ := wpQuiet_end _ _ h
    obtain ⟨w2, hC2, hQ, hr⟩ := hst e h2
    have hkl : k < ops.size := (Array.getElem?_eq_some_iff.1 hk).1
    have hc' : ∀ i o, ops[i]? = some o → i ≠ k → o.calm = true := fun i o hi hik => by
      have h1 := List.all_eq_true.1 hc i (List.mem_range.2 (Array.getElem?_eq_some_iff.1 hi).1)
      simpa [hi, hik] using h1
    have hq := wpAnyQ_lexL (C := C) (md := .any) hs (Region.rest ops k) _ a (fun i hi => by
      have := (List.mem_filter.1 hi).1
      exact List.mem_range.1 this) hlex h1
    refine wp_region_any hm ?_
    have := wpAny_aside (Q' := Q) (C := C) (md := .any) (e := e) (x := x) (y := y) hk hd hg hx hy hf hc' hC hC2 hQ (fun a y hy => hz a e y hy) (fun a ex ey => by
      have heq : execOp a.eval ok = execOp e.eval ok := by
        obtain ⟨dst, op, type, pos, after, guard⟩ := ok
        simp only at hop
        subst hop
        simp only [execOp, ex, ey]
      rw [heq]
      exact hr) _ (Array.replicate ops.size false) a (by simp) (getD_in (by simpa using hkl) (getD_replicate_false _ _)) hq
    rwa [hlen] at this
  · cases hB
end
end Go
