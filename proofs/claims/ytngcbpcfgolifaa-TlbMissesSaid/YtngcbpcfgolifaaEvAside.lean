/- A region that draws its order, of quiet operations and of one store to a block that no other one of them reads: one walk serves every order, the store last. After the library's own text on quiet operations. -/
import Derived.StillTail
import Derived.Deep.Quiet
namespace Go
section
variable {P : Program} {ops : Array Oper} {md : Region.Mode} {C : World → Prop}

/-- Kinds of operations that call nothing and leave memory alone. -/
def Oper.calm (o : Oper) : Bool := match o.op with
  | .move _ | .assign _ | .load _ _ | .fieldAddr _ _ _ | .field _ _ _ | .binOp _ _ _ _ _ | .pick _ _ _ | .convert _ _ _ | .unOp _ _ _ => true
  | _ => false

theorem calm_run {o : Oper} (h : o.calm = true) (ev : Operand → Value) (w : World) : ∀ f args w', (execOp ev o).run P w ≠ .ok (.enter f args) w' := by
  intro f args w' e
  obtain ⟨dst, op, type, pos, after, guard⟩ := o
  cases op <;> first | (cases h; done) | skip
  all_goals simp only [execOp] at e
  all_goals first
    | (simp only [Sem.run_pure, Result.ok.injEq] at e; cases e.1; done)
    | (simp only [Sem.run_bind] at e
       unfold Result.andThen at e
       split at e <;> simp at e)
    | (simp at e; split at e <;> simp at e)

theorem wpOp_of_calm {i : Nat} {o : Oper} {a : Act} {K : Act → Prop} {K' : Act → World → Prop} {Q' : Exit → Act → World → Prop} {w : World} (ho : ops[i]? = some o) (hc : o.calm = true) (hC : C w) (h : ∀ a, K a → K' a w) (hh : qOp P ops C i K a) : wpOp P ops Q' i K' a w := by
  unfold qOp at hh
  unfold wpOp
  simp only [ho] at hh ⊢
  split
  · rename_i hw
    simp only [hw, if_true] at hh
    refine .inl ?_
    obtain ⟨v, h1, h2⟩ := hh
    have h3 := h1 w hC
    have hn := calm_run (P := P) hc a.eval w
    unfold Oper.quietAt at h3
    unfold Oper.wp
    generalize (execOp a.eval o).run P w = r at *
    cases r with
    | ok n w' =>
      cases n <;> simp only [Oper.quietUpon] at h3 <;> simp only [Oper.upon]
      case value u =>
        obtain ⟨e1, e2⟩ := h3
        rw [e1, e2]
        exact h _ h2
      case skip =>
        obtain ⟨e1, e2⟩ := h3
        rw [e1, ← e2]
        exact h _ h2
      case enter f args => exact absurd rfl (hn f args w')
    | halt x w' => simp only [Oper.quietUpon] at h3
  · rename_i hw
    simp only [hw] at hh
    exact h _ hh

/-- Quiet operations that end with one frame, and call nothing: the world at the end is that at the beginning. -/
theorem wpAny_calm {e : Act} {Q' : Exit → Act → World → Prop} {w : World} {ks : List Nat} (hc : ∀ i o, ops[i]? = some o → i ∉ ks → o.calm = true) (hC : C w) (hQ : Q' .normal e w) :
    ∀ (fuel : Nat) (listed : Array Bool) (a : Act), (∀ k ∈ ks, listed.getD k true = true) → wpAnyQ P md ops C (fun a' => a' = e) fuel listed a → wpAny P md ops Q' fuel listed a w
  | 0, _, _, _, h => ⟨h.1, by rw [h.2]; exact hQ⟩
  | fuel + 1, listed, a, hk, h => by
    refine ⟨fun h0 => by rw [h.1 h0]; exact hQ, fun i hi => ?_⟩
    obtain ⟨hun, o, ho, _⟩ := mem_ready.1 hi
    have hik : i ∉ ks := fun e => by rw [hk i e] at hun; cases hun
    exact wpOp_of_calm ho (hc i o ho hik) hC (fun a' => wpAny_calm hc hC hQ fuel _ a' (fun k hk' => by
      have hne : i ≠ k := fun e => hik (e ▸ hk')
      rw [getD_set_ne true hne]
      exact hk k hk')) (h.2 i hi)

theorem eval_stable {e : Act} {d : Tmp} : ∀ (fuel : Nat) (listed : Array Bool) (a : Act), (∀ j oj, ops[j]? = some oj → listed.getD j true = false → oj.dst ≠ some d) →
    wpAnyQ P md ops C (fun a' => a' = e) fuel listed a → a.eval (.tmp d) = e.eval (.tmp d)
  | 0, _, _, _, h => by rw [h.2]
  | fuel + 1, listed, a, hf, h => by
    cases hr : Region.ready md ops listed with
    | nil => rw [h.1 hr]
    | cons i is =>
      have hi : i ∈ Region.ready md ops listed := by rw [hr]; simp
      obtain ⟨hun, o, ho, _⟩ := mem_ready.1 hi
      obtain ⟨v, _, hv⟩ := yieldsIn_of_qOp ho (h.2 i hi)
      have := eval_stable fuel _ _ (fun j oj hj hl => hf j oj hj (by
        by_cases hij : i = j
        · subst hij; exact hun
        · rw [getD_set_ne true hij] at hl; exact hl)) hv
      rw [← this]
      exact (Act.eval_put fun d' hd' he => hf i o ho hun (by cases he; exact hd')).symm

/-- An operand that the region's quiet operations leave alone, once those that this one waits for are done. -/
def Region.steady (md : Region.Mode) (ops : Array Oper) (ks : List Nat) (k : Nat) (x : Operand) : Bool := match x with
  | .tmp d => (List.range ops.size).all fun j => match ops[j]? with
    | some oj => ks.contains j || oj.dst != some d || Region.waitsFor md ops k j
    | none => true
  | _ => true

/-- Each waits for earlier ones alone. -/
def Region.forward (md : Region.Mode) (ops : Array Oper) : Bool := (List.range ops.size).all fun j => match ops[j]? with
  | some oj => oj.after.all fun e => !Region.binds md e || decide (e.on < j)
  | none => true

/-- 'big' has listed what 'small' has, and all of 'ks'. -/
structure Over (ks : List Nat) (ops : Array Oper) (small big : Array Bool) : Prop where
  size : small.size = ops.size
  size' : big.size = ops.size
  other : ∀ i d, i ∉ ks → big.getD i d = small.getD i d
  inside : ∀ k ∈ ks, ∀ d, big.getD k d = true
theorem Over.mono {ks : List Nat} {small big : Array Bool} (h : Over ks ops small big) {i : Nat} (hi : small.getD i false = true) : big.getD i false = true := by
  by_cases hk : i ∈ ks
  · exact h.inside i hk _
  · rw [h.other i _ hk]; exact hi
theorem Over.ready {ks : List Nat} {small big : Array Bool} (h : Over ks ops small big) {i : Nat} (hi : i ∈ Region.ready md ops small) (hk : i ∉ ks) : i ∈ Region.ready md ops big := by
  obtain ⟨hun, o, ho, hall⟩ := mem_ready.1 hi
  exact mem_ready.2 ⟨by rw [h.other i _ hk]; exact hun, o, ho, fun e he hb => h.mono (hall e he hb)⟩
theorem Over.store {ks : List Nat} {small big : Array Bool} (h : Over ks ops small big) {k : Nat} (hk : k ∈ ks) : Over ks ops (small.setIfInBounds k true) big :=
  ⟨by simp [h.size], h.size', fun i d hi => by
    have hne : k ≠ i := fun e => hi (by rw [← e]; exact hk)
    rw [getD_set_ne d hne]
    exact h.other i d hi, h.inside⟩
theorem Over.quiet {ks : List Nat} {small big : Array Bool} (h : Over ks ops small big) {i : Nat} (hi : i ∉ ks) : Over ks ops (small.setIfInBounds i true) (big.setIfInBounds i true) := by
  refine ⟨by simp [h.size], by simp [h.size'], fun j d hj => ?_, fun k hk d => ?_⟩
  · by_cases hij : i = j
    · subst hij
      by_cases hl : i < ops.size
      · have h1 : i < small.size := by rw [h.size]; exact hl
        have h2 : i < big.size := by rw [h.size']; exact hl
        simp [h1, h2]
      · have h1 : ¬ i < small.size := by rw [h.size]; exact hl
        have h2 : ¬ i < big.size := by rw [h.size']; exact hl
        simp [h1, h2]
    · rw [getD_set_ne d hij, getD_set_ne d hij]
      exact h.other j d hj
  · have hne : i ≠ k := fun e => hi (by rw [e]; exact hk)
    rw [getD_set_ne d hne]
    exact h.inside k hk d

theorem eval_steady {e : Act} {ks : List Nat} {k : Nat} {x : Operand} (hs : Region.steady md ops ks k x = true) {fuel : Nat} {listed big : Array Bool} {a : Act} (hr : k ∈ Region.ready md ops listed) (hO : Over ks ops listed big)
    (h : wpAnyQ P md ops C (fun a' => a' = e) fuel big a) (hz : ∀ y : Operand, (∀ d, y ≠ .tmp d) → a.eval y = e.eval y) : a.eval x = e.eval x := by
  cases x with
  | tmp d =>
    refine eval_stable fuel _ a (fun j oj hj hl hdst => ?_) h
    have hjl := (Array.getElem?_eq_some_iff.1 hj).1
    unfold Region.steady at hs
    have h1 := List.all_eq_true.1 hs j (List.mem_range.2 hjl)
    simp only [hj, Bool.or_eq_true, bne_iff_ne, ne_eq, List.contains_iff_mem] at h1
    rcases h1 with (h1 | h1) | h1
    · rw [hO.inside j h1] at hl
      cases hl
    · exact h1 hdst
    · obtain ⟨o', ho', e', he, hb, hon⟩ := Region.waitsFor_spec h1
      obtain ⟨hun, o2, ho2, hall⟩ := mem_ready.1 hr
      rw [ho'] at ho2
      cases ho2
      have h2 := hall e' he hb
      rw [hon] at h2
      have h3 := hO.mono h2
      rw [getD_both hl] at h3
      cases h3
  | _ => exact hz _ (fun d e => by cases e)

theorem ready_ne {k : Nat} (hf : Region.forward md ops = true) : ∀ (n : Nat) (listed : Array Bool), k < n → listed.size = ops.size → k < ops.size → listed.getD k true = false → Region.ready md ops listed ≠ [] := by
  intro n
  induction n generalizing k with
  | zero => intro _ h; omega
  | succ n ih =>
    intro listed hkn hsz hkl hun h0
    have hk : ops[k]? = some ops[k] := Array.getElem?_eq_getElem hkl
    by_cases hall : ∀ e ∈ ops[k].after, Region.binds md e = true → listed.getD e.on false = true
    · have : k ∈ Region.ready md ops listed := mem_ready.2 ⟨hun, _, hk, hall⟩
      rw [h0] at this
      cases this
    · have ⟨e, he⟩ := Classical.not_forall.1 hall
      have ⟨he1, he2⟩ := Classical.not_imp.1 he
      have ⟨hb, hl⟩ := Classical.not_imp.1 he2
      unfold Region.forward at hf
      have h1 := List.all_eq_true.1 hf k (List.mem_range.2 hkl)
      simp only [hk] at h1
      have h2 := Array.all_eq_true_iff_forall_mem.1 h1 e he1
      simp only [hb, Bool.not_true, Bool.false_or, decide_eq_true_eq] at h2
      have h3 : listed.getD e.on false = false := by simpa using hl
      exact ih listed (k := e.on) (by omega) hsz (by omega) (getD_in (by omega) h3) h0

/-- What a row of stores makes of a world, their operands as they are in one frame. -/
def Stores (P : Program) (ops : Array Oper) (e : Act) (C : World → Prop) : List Nat → World → World → Prop
  | [], w, w' => w' = w
  | k :: ks, w, w' => ∃ ok w1, ops[k]? = some ok ∧ C w1 ∧ ((∃ u, (execOp e.eval ok).run P w = .ok (.value u) w1) ∨ (execOp e.eval ok).run P w = .ok .skip w1) ∧ Stores P ops e C ks w1 w'

/-- A store that may stand in such a region. -/
def Region.storeB (md : Region.Mode) (ops : Array Oper) (ks : List Nat) (k : Nat) : Bool := match ops[k]? with
  | some ok => match ok.op with
    | .store _ x y => ok.dst.isNone && ok.guard.isNone && Region.steady md ops ks k x && Region.steady md ops ks k y
    | _ => false
  | none => false
/-- Each waits for the one ahead. -/
def Region.rowB (md : Region.Mode) (ops : Array Oper) : List Nat → Bool
  | [] => true
  | [_] => true
  | k :: l :: ks => Region.waitsFor md ops l k && Region.rowB md ops (l :: ks)

theorem row_ready {ks : List Nat} : ∀ (rest : List Nat) (k : Nat), Region.rowB md ops (k :: rest) = true → ∀ {listed : Array Bool}, (∀ j ∈ k :: rest, listed.getD j true = false) → ∀ j ∈ rest, j ∉ Region.ready md ops listed
  | [], _, _, _, _, _, hj => by cases hj
  | l :: rest, k, hB, listed, hun, j, hj => by
    simp only [Region.rowB, Bool.and_eq_true] at hB
    rcases List.mem_cons.1 hj with e | hj
    · subst e
      intro hr
      obtain ⟨o', ho', e', he, hb, hon⟩ := Region.waitsFor_spec hB.1
      obtain ⟨_, o2, ho2, hall⟩ := mem_ready.1 hr
      rw [ho'] at ho2
      cases ho2
      have h2 := hall e' he hb
      rw [hon, getD_both (hun k (by simp))] at h2
      cases h2
    · exact row_ready (ks := ks) rest l hB.2 (fun i hi => hun i (by simp [List.mem_cons.1 hi])) j hj

/-- Stores in their row, at whatever places of the order. -/
theorem wpAny_aside {e : Act} {Q' : Exit → Act → World → Prop} {w' : World} {ks : List Nat} (hks : ∀ k ∈ ks, Region.storeB md ops ks k = true)
    (hf : Region.forward md ops = true) (hc : ∀ i o, ops[i]? = some o → i ∉ ks → o.calm = true) (hQ : Q' .normal e w')
    (hz : ∀ (a : Act) (y : Operand), (∀ d, y ≠ .tmp d) → a.eval y = e.eval y) :
    ∀ (m : Nat) (fuel : Nat) (rest : List Nat) (listed big : Array Bool) (a : Act) (w : World), fuel + rest.length = m → (∀ k ∈ rest, k ∈ ks) → (∀ k ∈ ks, k ∉ rest → listed.getD k true = true) → (∀ k ∈ rest, listed.getD k true = false) → rest.Nodup →
      Region.rowB md ops rest = true → Over ks ops listed big → C w → Stores P ops e C rest w w' → wpAnyQ P md ops C (fun a' => a' = e) fuel big a → wpAny P md ops Q' (fuel + rest.length) listed a w := by
  intro m
  induction m with
  | zero =>
    intro fuel rest listed big a w hm hin hdone hun hnd hrow hO hC hS h
    cases rest with
    | cons _ _ => simp at hm
    | nil =>
      have : fuel = 0 := by simpa using hm
      subst this
      have e1 : w' = w := hS
      subst e1
      have hr : Region.ready md ops listed = [] := by
        cases hr : Region.ready md ops listed with
        | nil => rfl
        | cons i is =>
          have hi : i ∈ Region.ready md ops listed := by rw [hr]; simp
          have hk : i ∉ ks := fun hk => by
            have := hdone i hk (by simp)
            rw [(mem_ready.1 hi).1] at this
            cases this
          have := hO.ready hi hk
          rw [h.1] at this
          cases this
      exact ⟨hr, by rw [h.2]; exact hQ⟩
  | succ m ih =>
    intro fuel rest listed big a w hm hin hdone hun hnd hrow hO hC hS h
    have step : ∀ i ∈ Region.ready md ops listed, ∀ g, fuel + rest.length = g + 1 → wpOp P ops Q' i (wpAny P md ops Q' g (listed.setIfInBounds i true)) a w := by
      intro i hi g hg
      by_cases hk : i ∈ ks
      · cases rest with
        | nil =>
          have := hdone i hk (by simp)
          rw [(mem_ready.1 hi).1] at this
          cases this
        | cons k rest =>
          have hik : i = k := by
            by_cases hr : i ∈ k :: rest
            · rcases List.mem_cons.1 hr with e | hr
              · exact e
              · exact absurd hi (row_ready (ks := ks) rest k hrow hun i hr)
            · have := hdone i hk hr
              rw [(mem_ready.1 hi).1] at this
              cases this
          subst hik
          obtain ⟨ok, w1, hok, hC1, hst, hS'⟩ := hS
          have hB := hks i hk
          unfold Region.storeB at hB
          simp only [hok] at hB
          split at hB
          · rename_i t x y hop
            simp only [Bool.and_eq_true, Option.isNone_iff_eq_none] at hB
            obtain ⟨⟨⟨hd, hg'⟩, hx⟩, hy⟩ := hB
            have e1 := eval_steady hx hi hO h (hz a)
            have e2 := eval_steady hy hi hO h (hz a)
            have heq : execOp a.eval ok = execOp e.eval ok := by
              obtain ⟨dst, op, type, pos, after, guard⟩ := ok
              simp only at hop
              subst hop
              simp only [execOp, e1, e2]
            have hw : Region.wanted ok (yielded ops a.tmps) = true := by simp [Region.wanted, hg']
            unfold wpOp
            simp only [hok, hw, if_true]
            refine .inl ?_
            unfold Oper.wp
            rw [heq]
            have hn := List.nodup_cons.1 hnd
            have hrow' : Region.rowB md ops rest = true := by
              cases rest with
              | nil => rfl
              | cons l rest => simp only [Region.rowB, Bool.and_eq_true] at hrow; exact hrow.2
            have hgl : g = fuel + rest.length := by simp only [List.length_cons] at hg; omega
            have hil : i < listed.size := by rw [hO.size]; exact (Array.getElem?_eq_some_iff.1 hok).1
            have next : wpAny P md ops Q' g (listed.setIfInBounds i true) a w1 := by
              rw [hgl]
              refine ih fuel rest _ big a w1 (by simp only [List.length_cons] at hm; omega) (fun k hk' => hin k (by simp [hk'])) (fun k hk' hr => ?_) (fun k hk' => ?_) hn.2 hrow' (hO.store hk) hC1 hS' h
              · by_cases hik : i = k
                · subst hik; simp [hil]
                · rw [getD_set_ne true hik]
                  exact hdone k hk' (fun h => by rcases List.mem_cons.1 h with e | h; exact hik e.symm; exact hr h)
              · have hik : i ≠ k := fun e => hn.1 (e ▸ hk')
                rw [getD_set_ne true hik]
                exact hun k (by simp [hk'])
            rcases hst with ⟨u, h1⟩ | h1 <;> rw [h1] <;> simp only [Oper.upon, hd]
            all_goals exact next
          · cases hB
      · have hrb := hO.ready hi hk
        cases fuel with
        | zero =>
          rw [h.1] at hrb
          cases hrb
        | succ fuel =>
          obtain ⟨_, o, ho, _⟩ := mem_ready.1 hi
          have hgl : g = fuel + rest.length := by omega
          refine wpOp_of_calm ho (hc i o ho hk) hC (fun a' h' => ?_) (h.2 i hrb)
          rw [hgl]
          refine ih fuel rest _ _ a' w (by omega) hin (fun k hk' hr => ?_) (fun k hk' => ?_) hnd hrow (hO.quiet hk) hC hS h'
          · have hik : i ≠ k := fun e => hk (e ▸ hk')
            rw [getD_set_ne true hik]
            exact hdone k hk' hr
          · have hik : i ≠ k := fun e => hk (e ▸ hin k hk')
            rw [getD_set_ne true hik]
            exact hun k hk'
    rw [show fuel + rest.length = m + 1 from hm]
    refine ⟨fun h0 => ?_, fun i hi => step i hi m hm⟩
    cases rest with
    | cons k rest =>
      have hk : k < ops.size := by
        have hB := hks k (hin k (by simp))
        unfold Region.storeB at hB
        cases hok : ops[k]? with
        | none => rw [hok] at hB; cases hB
        | some ok => exact (Array.getElem?_eq_some_iff.1 hok).1
      exact absurd h0 (ready_ne hf (k + 1) listed (by omega) hO.size hk (hun k (by simp)))
    | nil =>
      have e1 : w' = w := hS
      subst e1
      cases fuel with
      | zero => rw [h.2]; exact hQ
      | succ fuel =>
        have hr : Region.ready md ops big = [] := by
          cases hr : Region.ready md ops big with
          | nil => rfl
          | cons i is =>
            have hi : i ∈ Region.ready md ops big := by rw [hr]; simp
            obtain ⟨hun', o, ho, hall⟩ := mem_ready.1 hi
            have hk : i ∉ ks := fun hk => by rw [hO.inside i hk] at hun'; cases hun'
            have : i ∈ Region.ready md ops listed := by
              refine mem_ready.2 ⟨by rw [← hO.other i _ hk]; exact hun', o, ho, fun e' he hb => ?_⟩
              have h2 := hall e' he hb
              by_cases hk' : e'.on ∈ ks
              · have h3 := hdone e'.on hk' (by simp)
                by_cases hl : e'.on < listed.size
                · simp [hl] at h3 ⊢; exact h3
                · have hl' : ¬ e'.on < big.size := by rw [hO.size', ← hO.size]; exact hl
                  have := hO.inside e'.on hk' false
                  simp [hl'] at this
              · rw [← hO.other _ _ hk']; exact h2
            rw [h0] at this
            cases this
        rw [h.1 hr]
        exact hQ

/-! ### One order for all -/
def Region.lexL (md : Region.Mode) (ops : Array Oper) : List Nat → Array Bool → Bool
  | [], listed => (Region.ready md ops listed).isEmpty
  | i :: is, listed => (Region.ready md ops listed).contains i && Region.free md ops listed i && Region.lexL md ops is (listed.setIfInBounds i true)

theorem wpAnyQ_lexL {Q : Act → Prop} (hs : Region.noSelect ops = true) : ∀ (is : List Nat) (listed : Array Bool) (a : Act), (∀ i ∈ is, i < ops.size) → Region.lexL md ops is listed = true →
    wpQuiet P ops C Q (is.filterMap fun i => ops[i]?) a → wpAnyQ P md ops C Q is.length listed a
  | [], _, _, _, hB, h => ⟨by simpa [Region.lexL] using hB, h⟩
  | i :: is, listed, a, hl, hB, h => by
    have h0 : ops[i]? = some ops[i]! := by
      have := hl i (by simp)
      simp [this]
    simp only [Region.lexL, Bool.and_eq_true] at hB
    obtain ⟨⟨hr, hf⟩, hB'⟩ := hB
    rw [List.filterMap_cons, h0] at h
    have hst : qOp P ops C i (wpQuiet P ops C Q (is.filterMap fun i => ops[i]?)) a := by unfold qOp; simp only [h0]; exact h
    obtain ⟨v, hy, hK⟩ := yieldsIn_of_qOp h0 hst
    exact wpAnyQ_first h0 (Region.noSelect_spec hs) is.length listed a (Region.free_spec h0 hf) (by simpa using hr) hy
      (wpAnyQ_lexL hs is _ _ (fun j hj => hl j (by simp [hj])) hB' hK)

/-- The frame at the end. -/
theorem wpQuiet_end {L : Act → Prop} : ∀ (l : List Oper) (a : Act), wpQuiet P ops C L l a → ∃ e, wpQuiet P ops C (fun a' => a' = e) l a ∧ L e
  | [], a, h => ⟨a, rfl, h⟩
  | o :: l, a, h => by
    unfold wpQuiet at h ⊢
    split at h
    · rename_i hw
      obtain ⟨v, h1, h2⟩ := h
      obtain ⟨e, h3, h4⟩ := wpQuiet_end l _ h2
      exact ⟨e, by rw [if_pos hw]; exact ⟨v, h1, h3⟩, h4⟩
    · rename_i hw
      obtain ⟨e, h3, h4⟩ := wpQuiet_end l _ h
      exact ⟨e, by rw [if_neg hw]; exact h3, h4⟩

def Region.storesOf (ops : Array Oper) : List Nat := (List.range ops.size).filter fun i => match ops[i]? with
  | some o => match o.op with
    | .store _ _ _ => true
    | _ => false
  | none => false
def Region.rest (ops : Array Oper) : List Nat := (List.range ops.size).filter fun i => !((Region.storesOf ops).contains i)
def Region.restOps (ops : Array Oper) : List Oper := (Region.rest ops).filterMap fun i => ops[i]?
def Region.listAll : List Nat → Array Bool → Array Bool
  | [], l => l
  | k :: ks, l => Region.listAll ks (l.setIfInBounds k true)

/-- Stores in a row, beside operations that are quiet and call nothing. -/
def Region.asideB (md : Region.Mode) (ops : Array Oper) : Bool :=
  Region.noSelect ops && Region.forward md ops && ((Region.storesOf ops).all fun k => Region.storeB md ops (Region.storesOf ops) k) && Region.rowB md ops (Region.storesOf ops)
    && ((List.range ops.size).all fun i => (Region.storesOf ops).contains i || match ops[i]? with
      | some o => o.calm
      | none => true)
    && decide ((Region.rest ops).length + (Region.storesOf ops).length = ops.size)
    && Region.lexL md ops (Region.rest ops) (Region.listAll (Region.storesOf ops) (Array.replicate ops.size false))

theorem listAll_over : ∀ (ks l : List Nat) (small big : Array Bool), (∀ k ∈ ks, k < ops.size) → small.size = ops.size → big.size = ops.size → (∀ i d, i ∉ l → big.getD i d = small.getD i d) → (∀ k ∈ l, ∀ d, big.getD k d = true) → Over (ks ++ l) ops small (Region.listAll ks big)
  | [], l, small, big, _, h1, h2, h3, h4 => ⟨h1, h2, h3, h4⟩
  | k :: ks, l, small, big, hk, h1, h2, h3, h4 => by
    have := listAll_over ks (k :: l) small (big.setIfInBounds k true) (fun j hj => hk j (by simp [hj])) h1 (by simp [h2]) (fun i d hi => ?_) (fun j hj d => ?_)
    · refine ⟨this.size, this.size', fun i d hi => this.other i d (fun h => hi ?_), fun j hj d => this.inside j ?_ d⟩
      · simp only [List.mem_append, List.mem_cons] at h ⊢
        rcases h with h | h | h
        · exact .inl (.inr h)
        · exact .inl (.inl h)
        · exact .inr h
      · simp only [List.mem_append, List.mem_cons] at hj ⊢
        rcases hj with (h | h) | h
        · exact .inr (.inl h)
        · exact .inl h
        · exact .inr (.inr h)
    · have hik : k ≠ i := fun e => hi (by simp [e])
      rw [getD_set_ne d hik]
      exact h3 i d (fun h => hi (by simp [h]))
    · by_cases hjk : k = j
      · subst hjk
        have : k < big.size := by rw [h2]; exact hk k (by simp)
        simp [this]
      · rw [getD_set_ne d hjk]
        rcases List.mem_cons.1 hj with e | h
        · exact absurd e.symm hjk
        · exact h4 j h d

theorem wp_region_aside {id : Nat} {Q : Exit → Act → World → Prop} {a : Act} {w : World} {L : Act → Prop} (hm : P.follows .mixedOrders = true) (hB : Region.asideB .any ops = true) (hC : C { w with drawn := w.drawn + 1 })
    (h : wpQuiet P ops C L (Region.restOps ops) a)
    (hst : ∀ e, L e → ∃ w2, Q .normal e w2 ∧ Stores P ops e C (Region.storesOf ops) { w with drawn := w.drawn + 1 } w2)
    (hz : ∀ (a e : Act) (y : Operand), (∀ d, y ≠ .tmp d) → a.eval y = e.eval y) :
    (Code.region id ops true).wp P Q a w := by
  unfold Region.asideB at hB
  simp only [Bool.and_eq_true, decide_eq_true_eq] at hB
  obtain ⟨⟨⟨⟨⟨⟨hs, hf⟩, hks⟩, hrow⟩, hc⟩, hlen⟩, hlex⟩ := hB
  obtain ⟨e, h1, h2⟩ := wpQuiet_end _ _ h
  obtain ⟨w2, hQ, hS⟩ := hst e h2
  have hin : ∀ k ∈ Region.storesOf ops, k < ops.size := fun k hk => List.mem_range.1 (List.mem_filter.1 hk).1
  have hc' : ∀ i o, ops[i]? = some o → i ∉ Region.storesOf ops → o.calm = true := fun i o hi hik => by
    have h1 := List.all_eq_true.1 hc i (List.mem_range.2 (Array.getElem?_eq_some_iff.1 hi).1)
    simp only [hi, Bool.or_eq_true, List.contains_iff_mem] at h1
    exact h1.resolve_left hik
  have hq := wpAnyQ_lexL (C := C) (md := .any) hs (Region.rest ops) _ a (fun i hi => List.mem_range.1 (List.mem_filter.1 hi).1) hlex h1
  refine wp_region_any hm ?_
  have hO := listAll_over (ops := ops) (Region.storesOf ops) [] (Array.replicate ops.size false) (Array.replicate ops.size false) hin (by simp) (by simp) (fun _ _ _ => rfl) (fun k hk => by cases hk)
  rw [List.append_nil] at hO
  have := wpAny_aside (P := P) (Q' := Q) (C := C) (md := .any) (e := e) (ks := Region.storesOf ops) (fun k hk => List.all_eq_true.1 hks k hk) hf hc' hQ (fun a y hy => hz a e y hy) _ (Region.rest ops).length (Region.storesOf ops) _ _ a _ rfl (fun k hk => hk) (fun k hk hn => absurd hk hn)
    (fun k hk => getD_in (by simpa using hin k hk) (getD_replicate_false _ _)) ((List.nodup_range).filter _) hrow hO hC hS hq
  rwa [hlen] at this
end
end Go

namespace Go
set_option linter.unusedVariables false
section
variable {P : Program} {ops : Array Oper} {md : Region.Mode}

def botQ : Exit → Act → World → Prop := fun _ _ _ => False
theorem letsOut_bot (h : LetsOut botQ) : False := let ⟨_, _, h⟩ := h; h

/-- An operation apart from another one does the same ahead of that one's value as behind it. -/
theorem wpOp_back {j : Nat} {oi oj : Oper} {v : Value} {K : Act → World → Prop} {a : Act} {w : World} (hj : ops[j]? = some oj) (hap : oi.apart ops oj = true) (hsj : ∀ cs b, oj.op ≠ .select cs b)
    (h : wpOp P ops botQ j K (a.put oi.dst v) w) : wpOp P ops botQ j (fun a' w' => K (a'.put oi.dst v) w') a w := by
  obtain ⟨h1, h2, h3⟩ := Oper.apart_spec hap
  unfold wpOp at *
  simp only [hj] at *
  rw [wanted_put oj a oi.dst v h1] at h
  have hc : ∀ (b : Act) u, (b.put oi.dst v).put oj.dst u = (b.put oj.dst u).put oi.dst v := fun b u => Act.put_comm b v u h2
  split
  · rename_i hw
    simp only [hw, if_true] at h
    have h := h.resolve_right fun hh => letsOut_bot hh.2
    refine .inl ?_
    unfold Oper.wp at *
    rw [execOp_put oj hsj a oi.dst v h1] at h
    generalize (execOp a.eval oj).run P w = r at *
    cases r with
    | ok n w' =>
      cases n with
      | value u => simp only [Oper.upon] at h ⊢; rw [← hc]; exact h
      | skip => simp only [Oper.upon] at h ⊢; rw [← hc]; exact h
      | defer d =>
        simp only [Oper.upon] at h ⊢
        rw [← hc]
        have e : ({ a with defers := d :: a.defers } : Act).put oi.dst v = { a.put oi.dst v with defers := d :: (a.put oi.dst v).defers } := by cases oi.dst <;> rfl
        rw [e]
        exact h
      | enter f args =>
        simp only [Oper.upon] at h ⊢
        refine Calls.mono h fun e w'' he => ?_
        cases e with
        | returned u => simp only at he ⊢; rw [← hc]; exact he
        | panicked c => exact he
        | outgrown => exact he
      | row r args =>
        simp only [Oper.upon] at h ⊢
        exact Rows.mono h fun u w'' he => by rw [← hc]; exact he
      | _ => simp only [Oper.upon] at h
    | halt x w' => cases x <;> simp only [Oper.upon] at h ⊢ <;> exact h
  · rename_i hw
    simp only [hw] at h
    rw [← hc]
    exact h

/-- In state 'a', in every world of the class, an operation that calls nothing leaves its value, and the world. -/
def YieldsC (P : Program) (ops : Array Oper) (D : World → Prop) (o : Oper) (v : Value) (a : Act) : Prop :=
  (Region.wanted o (yielded ops a.tmps) = true ∧ ∀ w, D w → (execOp a.eval o).run P w = .ok (.value v) w ∨ ((execOp a.eval o).run P w = .ok .skip w ∧ v = undef)) ∨
  (Region.wanted o (yielded ops a.tmps) = false ∧ v = undef)
theorem YieldsC.put {D : World → Prop} {oi oj : Oper} {v u : Value} {a : Act} (h : YieldsC P ops D oi v a) (hap : oi.apart ops oj = true) (hsi : ∀ cs b, oi.op ≠ .select cs b) : YieldsC P ops D oi v (a.put oj.dst u) := by
  obtain ⟨h1, h2, h3⟩ := Oper.apart_spec hap
  unfold YieldsC at *
  rw [execOp_put oi hsi a oj.dst u h3, wanted_put oi a oj.dst u h3]
  exact h
theorem YieldsC.defers {D : World → Prop} {oi : Oper} {v : Value} {a : Act} {l : List Deferred} (h : YieldsC P ops D oi v a) : YieldsC P ops D oi v { a with defers := l } := h
theorem YieldsC.wpOp {D : World → Prop} {i : Nat} {oi : Oper} {v : Value} {a : Act} {w : World} {K : Act → World → Prop} (hi : ops[i]? = some oi) (h : YieldsC P ops D oi v a) (hD : D w) (hK : K (a.put oi.dst v) w) : wpOp P ops botQ i K a w := by
  unfold Go.wpOp
  simp only [hi]
  rcases h with ⟨hw, hv⟩ | ⟨hw, rfl⟩
  · simp only [hw, if_true]
    refine .inl ?_
    unfold Oper.wp
    rcases hv w hD with h1 | ⟨h1, rfl⟩ <;> rw [h1] <;> simp only [Oper.upon] <;> exact hK
  · simp only [hw, Bool.false_eq_true, if_false]; exact hK

/-- Whatever order is picked from here on; the world's class is told from step to step, and goes on as it was but behind those that reset it. -/
def wpX (P : Program) (md : Region.Mode) (ops : Array Oper) (resets : Nat → Bool) (G : World → Prop) (R : Act → World → Prop) : Nat → (World → Prop) → Array Bool → Act → World → Prop
  | 0, _, listed, a, w => Region.ready md ops listed = [] ∧ R a w
  | n + 1, C, listed, a, w => (Region.ready md ops listed = [] → R a w) ∧
    ∀ j ∈ Region.ready md ops listed, wpOp P ops botQ j (fun a' w' => ∃ C' : World → Prop, (∀ x, C' x → G x) ∧ (resets j = false → ∀ x, C' x → C x) ∧ C' w' ∧ wpX P md ops resets G R n C' (listed.setIfInBounds j true) a' w') a w

variable {resets : Nat → Bool} {G : World → Prop} {R : Act → World → Prop}
/-- What an operation keeps of the frame's quiet ones: 'wpOp' that also tells it. -/
theorem wpOp_keeps {D : World → Prop} {j : Nat} {oi oj : Oper} {v : Value} {K : Act → World → Prop} {a : Act} {w : World} (hj : ops[j]? = some oj) (hap : oi.apart ops oj = true) (hsi : ∀ cs b, oi.op ≠ .select cs b) (hy : YieldsC P ops D oi v a)
    (h : wpOp P ops botQ j K a w) : wpOp P ops botQ j (fun a' w' => YieldsC P ops D oi v a' ∧ K a' w') a w := by
  unfold wpOp at *
  simp only [hj] at *
  split
  · rename_i hw
    simp only [hw, if_true] at h
    have h := h.resolve_right fun hh => letsOut_bot hh.2
    refine .inl ?_
    unfold Oper.wp at *
    generalize (execOp a.eval oj).run P w = r at *
    cases r with
    | ok n w' =>
      cases n with
      | value u => simp only [Oper.upon] at h ⊢; exact ⟨hy.put hap hsi, h⟩
      | skip => simp only [Oper.upon] at h ⊢; exact ⟨hy.put hap hsi, h⟩
      | defer d =>
        simp only [Oper.upon] at h ⊢
        exact ⟨(hy.defers (l := d :: a.defers)).put hap hsi, h⟩
      | enter f args =>
        simp only [Oper.upon] at h ⊢
        refine Calls.mono h fun e w'' he => ?_
        cases e with
        | returned u => exact ⟨hy.put hap hsi, he⟩
        | panicked c => exact he
        | outgrown => exact he
      | row r args =>
        simp only [Oper.upon] at h ⊢
        exact Rows.mono h fun u w'' he => ⟨hy.put hap hsi, he⟩
      | _ => simp only [Oper.upon] at h
    | halt x w' => cases x <;> simp only [Oper.upon] at h ⊢ <;> exact h
  · rename_i hw
    simp only [hw] at h
    exact ⟨hy.put hap hsi, h⟩

theorem getD_replicate_none (m j : Nat) : (Array.replicate m false).getD j false = false := by
  rcases Nat.lt_or_ge j m with h | h
  · simp [h]
  · simp [h]
/-- What is listed waits for nothing that isn't. -/
def ClosedL (md : Region.Mode) (ops : Array Oper) (l : Array Bool) : Prop := ∀ (j : Nat) (o : Oper), l.getD j false = true → ops[j]? = some o → ∀ e ∈ o.after, Region.binds md e = true → l.getD e.on false = true
theorem ClosedL.set {l : Array Bool} (h : ClosedL md ops l) {i : Nat} (hi : i ∈ Region.ready md ops l) : ClosedL md ops (l.setIfInBounds i true) := by
  obtain ⟨hun, oi, hoi, hall⟩ := mem_ready.1 hi
  have up : ∀ k, l.getD k false = true → (l.setIfInBounds i true).getD k false = true := fun k hk => by
    by_cases hik : i = k
    · subst hik
      rcases Nat.lt_or_ge i l.size with h' | h'
      · simp [h']
      · simp [Array.getElem?_eq_none h'] at hk
    · rw [getD_set_ne false hik]; exact hk
  intro j o hj ho e he hb
  by_cases hij : i = j
  · subst hij
    rw [hoi] at ho
    cases ho
    exact up _ (hall e he hb)
  · rw [getD_set_ne false hij] at hj
    exact up _ (h j o hj ho e he hb)
theorem closed_none (n : Nat) : ClosedL md ops (Array.replicate n false) := fun j o h => by rw [getD_replicate_none] at h; cases h
/-- j waits for i, directly or through others. -/
def Region.mustB (md : Region.Mode) (ops : Array Oper) : Nat → Nat → Nat → Bool
  | 0, _, _ => false
  | n + 1, j, i => match ops[j]? with
    | some o => o.after.any fun e => Region.binds md e && (Nat.beq e.on i || Region.mustB md ops n e.on i)
    | none => false
theorem mustB_listed {l : Array Bool} (hl : ClosedL md ops l) : ∀ (n j i : Nat), (∀ o, ops[j]? = some o → ∀ e ∈ o.after, Region.binds md e = true → l.getD e.on false = true) → Region.mustB md ops n j i = true → l.getD i false = true
  | 0, _, _, _, h => by cases h
  | n + 1, j, i, hj, h => by
    unfold Region.mustB at h
    split at h
    · rename_i o ho
      obtain ⟨q, hq, h2⟩ := Array.any_eq_true.1 h
      have he := Array.getElem_mem (xs := o.after) hq
      generalize o.after[q] = e at h2 he
      rw [Bool.and_eq_true, Bool.or_eq_true] at h2
      have hon := hj o ho e he h2.1
      rcases h2.2 with h3 | h3
      · rw [← Nat.eq_of_beq_eq_true h3]; exact hon
      · exact mustB_listed hl n e.on i (fun o' ho' => hl e.on o' hon ho') h3
    · cases h
theorem mustB_ready {l : Array Bool} (hl : ClosedL md ops l) {n j i : Nat} (hj : j ∈ Region.ready md ops l) (h : Region.mustB md ops n j i = true) : l.getD i false = true := by
  obtain ⟨_, o, ho, hall⟩ := mem_ready.1 hj
  exact mustB_listed hl n j i (fun o' ho' => by rw [ho] at ho'; cases ho'; exact hall) h

theorem wpX_first {D : World → Prop} {i : Nat} {oi : Oper} {v : Value} (hi : ops[i]? = some oi) (hsel : ∀ (j : Nat) (o : Oper) cs b, ops[j]? = some o → o.op ≠ .select cs b)
    (hres : (∀ x, G x → D x) ∨ ∀ j, resets j = true → ∀ l, ClosedL md ops l → j ∈ Region.ready md ops l → l.getD i false = true) :
    ∀ (n : Nat) (C : World → Prop) (listed : Array Bool) (a : Act) (w : World), (∀ x, C x → G x) → (∀ x, C x → D x) → C w → ClosedL md ops listed →
      (∀ j oj, ops[j]? = some oj → j ≠ i → listed.getD j true = false → (∀ e ∈ oj.after, Region.binds md e = true → e.on ≠ i) → oi.apart ops oj = true) →
      i ∈ Region.ready md ops listed → YieldsC P ops D oi v a → wpX P md ops resets G R n C (listed.setIfInBounds i true) (a.put oi.dst v) w → wpX P md ops resets G R (n + 1) C listed a w := by
  intro n
  induction n with
  | zero =>
    intro C listed a w hCG hCD hC hcl hfree hr hy H
    refine ⟨fun h => (by rw [h] at hr; cases hr), fun j hj => ?_⟩
    by_cases hji : j = i
    · subst hji
      exact hy.wpOp hi (hCD w hC) ⟨C, hCG, fun _ x h => h, hC, H⟩
    · have := ready_mono hj hji
      rw [H.1] at this
      cases this
  | succ n ih =>
    intro C listed a w hCG hCD hC hcl hfree hr hy H
    refine ⟨fun h => (by rw [h] at hr; cases hr), fun j hj => ?_⟩
    by_cases hji : j = i
    · subst hji
      exact hy.wpOp hi (hCD w hC) ⟨C, hCG, fun _ x h => h, hC, H⟩
    · have h1 := H.2 j (ready_mono hj hji)
      obtain ⟨hjun, oj, hoj, hall⟩ := mem_ready.1 hj
      have hnot : ∀ e ∈ oj.after, Region.binds md e = true → e.on ≠ i := fun e he hb heq => by
        have h1 := hall e he hb
        have h0 := (mem_ready.1 hr).1
        rw [heq] at h1
        rcases Nat.lt_or_ge i listed.size with h' | h'
        · simp [h'] at h0 h1; rw [h0] at h1; cases h1
        · simp [Array.getElem?_eq_none h'] at h1
      have hap := hfree j oj hoj hji hjun hnot
      have h2 := wpOp_keeps hoj hap (fun cs b => hsel i oi cs b hi) hy (wpOp_back hoj hap (fun cs b => hsel j oj cs b hoj) h1)
      have hfree' : ∀ k ok, ops[k]? = some ok → k ≠ i → (listed.setIfInBounds j true).getD k true = false →
          (∀ e ∈ ok.after, Region.binds md e = true → e.on ≠ i) → oi.apart ops ok = true := fun k ok hk hki hun hno => by
        refine hfree k ok hk hki ?_ hno
        by_cases hjk : j = k
        · subst hjk; exact hjun
        · rw [getD_set_ne true hjk] at hun; exact hun
      refine wpOp_mono (fun a' w' h3 => ?_) h2
      obtain ⟨hy', C', hG', hC1, hC2, h4⟩ := h3
      refine ⟨C', hG', hC1, hC2, ih C' (listed.setIfInBounds j true) a' w' hG' (fun x hx => ?_) hC2 (hcl.set hj) hfree' (ready_mono hr (Ne.symm hji)) hy' ?_⟩
      · rcases hres with hres | hres
        · exact hres x (hG' x hx)
        · cases hrj : resets j
          · exact hCD x (hC1 hrj x hx)
          · have h0 := (mem_ready.1 hr).1
            have h5 := hres j hrj listed hcl hj
            rcases Nat.lt_or_ge i listed.size with h' | h'
            · simp [h'] at h0 h5; rw [h0] at h5; cases h5
            · simp [Array.getElem?_eq_none h'] at h5
      · rw [Array.setIfInBounds_comm _ _ hji]
        exact h4

/-- One order of the quiet ones; at what is not quiet every one that may come up. 'n': how many are left. -/
def wpT (P : Program) (md : Region.Mode) (ops : Array Oper) (resets : Nat → Bool) (G : World → Prop) (R : Act → World → Prop) : Nat → (World → Prop) → Array Bool → Act → World → Prop
  | 0, _, listed, a, w => Region.ready md ops listed = [] ∧ R a w
  | n + 1, C, listed, a, w => C w ∧
    ((∃ (i : Nat) (o : Oper) (v : Value) (D : World → Prop), ops[i]? = some o ∧ i ∈ Region.ready md ops listed ∧ Region.free md ops listed i = true ∧ (∀ x, C x → D x) ∧
        ((∀ x, G x → D x) ∨ ∀ j, resets j = true → ∀ l, ClosedL md ops l → j ∈ Region.ready md ops l → l.getD i false = true) ∧ YieldsC P ops D o v a ∧ wpT P md ops resets G R n C (listed.setIfInBounds i true) (a.put o.dst v) w) ∨
     (Region.ready md ops listed ≠ [] ∧ ∀ i ∈ Region.ready md ops listed, wpOp P ops botQ i (fun a' w' => ∃ C' : World → Prop, (∀ x, C' x → G x) ∧ (resets i = false → ∀ x, C' x → C x) ∧ C' w' ∧ wpT P md ops resets G R n C' (listed.setIfInBounds i true) a' w') a w))

theorem wpX_of_T (hsel : Region.noSelect ops = true) : ∀ (n : Nat) (C : World → Prop) (listed : Array Bool) (a : Act) (w : World), (∀ x, C x → G x) → ClosedL md ops listed → wpT P md ops resets G R n C listed a w → wpX P md ops resets G R n C listed a w
  | 0, _, _, _, _, _, _, h => h
  | n + 1, C, listed, a, w, hCG, hcl, h => by
    obtain ⟨hC, h⟩ := h
    rcases h with ⟨i, o, v, D, ho, hr, hf, hCD, hres, hy, h⟩ | ⟨hr, h⟩
    · exact wpX_first ho (Region.noSelect_spec hsel) hres n C listed a w hCG hCD hC hcl (Region.free_spec ho hf) hr hy (wpX_of_T hsel n C _ _ w hCG (hcl.set hr) h)
    · refine ⟨fun h0 => absurd h0 hr, fun j hj => ?_⟩
      exact wpOp_mono (fun a' w' ⟨C', hg, h1, h2, h3⟩ => ⟨C', hg, h1, h2, wpX_of_T hsel n C' _ _ w' hg (hcl.set hj) h3⟩) (h j hj)
theorem wpT_mono {R R' : Act → World → Prop} (hR : ∀ a w, R a w → R' a w) : ∀ (n : Nat) (C : World → Prop) (listed : Array Bool) (a : Act) (w : World), wpT P md ops resets G R n C listed a w → wpT P md ops resets G R' n C listed a w
  | 0, _, _, _, _, h => ⟨h.1, hR _ _ h.2⟩
  | n + 1, C, listed, a, w, h => ⟨h.1, h.2.imp (fun ⟨i, o, v, D, h1, h2, h3, h4, h5, h6, h7⟩ => ⟨i, o, v, D, h1, h2, h3, h4, h5, h6, wpT_mono hR n C _ _ w h7⟩)
      fun ⟨h1, h2⟩ => ⟨h1, fun i hi => wpOp_mono (fun a' w' ⟨C', g1, g2, g3, g4⟩ => ⟨C', g1, g2, g3, wpT_mono hR n C' _ a' w' g4⟩) (h2 i hi)⟩⟩
theorem wpOp_bot {i : Nat} {K : Act → World → Prop} {Q : Exit → Act → World → Prop} {a : Act} {w : World} (h : wpOp P ops botQ i K a w) : wpOp P ops Q i K a w := by
  unfold wpOp at *
  split
  · rename_i ho; simp only [ho] at h; exact h
  · rename_i o ho
    simp only [ho] at h
    split
    · rename_i hw
      simp only [hw, if_true] at h
      have h := h.resolve_right fun hh => letsOut_bot hh.2
      refine .inl ?_
      unfold Oper.wp at *
      generalize (execOp a.eval o).run P w = r at *
      cases r with
      | ok n w' =>
        cases n <;> simp only [Oper.upon] at h ⊢ <;> first
          | exact h
          | (refine Calls.mono h fun e w'' he => ?_
             cases e with
             | returned u => exact he
             | panicked c => exact he.elim
             | outgrown => exact (letsOut_bot he).elim)
      | halt x w' => cases x <;> simp only [Oper.upon] at h ⊢ <;> first | exact h | exact h.elim
    · rename_i hw; simp only [hw] at h; exact h

theorem wpAny_of_X {Q : Exit → Act → World → Prop} (hR : ∀ a w, R a w → Q .normal a w) : ∀ (n : Nat) (C : World → Prop) (listed : Array Bool) (a : Act) (w : World), wpX P md ops resets G R n C listed a w → wpAny P md ops Q n listed a w
  | 0, _, _, _, _, h => ⟨h.1, hR _ _ h.2⟩
  | n + 1, C, listed, a, w, h => ⟨fun h0 => hR _ _ (h.1 h0), fun j hj => wpOp_mono (fun a' w' ⟨C', _, _, _, h3⟩ => wpAny_of_X hR n C' _ a' w' h3) (wpOp_bot (h.2 j hj))⟩

theorem wp_region_chain {id : Nat} {Q : Exit → Act → World → Prop} {a : Act} {w : World} {C : World → Prop} (hm : P.follows .mixedOrders = true) (hsel : Region.noSelect ops = true) (hR : ∀ a w, R a w → Q .normal a w)
    (hG : ∀ x, C x → G x) (h : wpT P .any ops resets G R ops.size C (Array.replicate ops.size false) a { w with drawn := w.drawn + 1 }) : (Code.region id ops true).wp P Q a w :=
  wp_region_any hm (wpAny_of_X hR ops.size C _ _ _ (wpX_of_T hsel ops.size C _ _ _ hG (closed_none _) h))
end
end Go
