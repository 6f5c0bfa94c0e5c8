/- States by templates: what stays the same is told, numbers are holes that an environment fills. Conditions: none. -/
import Derived.Test.YtngcbpcfgolifaaEvSel
namespace Go.Proofs.Ytngcbpcfgolifaa.Ev
open Go.RowKit
set_option linter.unusedVariables false
set_option linter.unusedSimpArgs false

/-- What fills the holes, in order. -/
structure Env (D : Dom) where
  i : List D.I
  b : List D.B
  n : List D.N
  f : List D.F
def Env.nil {D : Dom} : Env D := ⟨[], [], [], []⟩
def Env.app {D : Dom} (x y : Env D) : Env D := ⟨x.i ++ y.i, x.b ++ y.b, x.n ++ y.n, x.f ++ y.f⟩

inductive TC where
  | any
  | un (w : Nat)
  | len
  | hole
/-- A value's template. 'skip': nothing is known. 'int', 'bool': a hole. 'slice': its length is a hole. -/
inductive TV where
  | skip
  | undef
  | int (k : IntKind)
  | bool
  | num (k : IntKind) (n : Int)
  | truth (b : Bool)
  | ptr (b off : Nat)
  | nilptr
  | slice (b off : Nat) (cap : TC)
  | nilslice
  | func (f : FuncId)
  | empty (b : Nat)
  | sstr
  | clo (f : FuncId) (bs : List Nat)
inductive TO where
  | skip
  | cells (t : TypeId) (l : List TV)
  | rows (t : TypeId) (ks : List CK)
  | arr (t : TypeId) (ks : List CK)
structure Tmpl where
  slots : List TV
  heap : List TO

section
variable {D : Dom}
def headI (l : List D.I) : D.I := l.headD (D.num 0)
def headB (l : List D.B) : D.B := l.headD (D.bool false)
def headN (l : List D.N) : D.N := l.headD (D.nlit 0)
def headF (l : List D.F) : D.F := l.headD (D.constF (D.num 0))

def fillC (e : Env D) : TC → Cap D × Env D
  | .any => (.any, e)
  | .un w => (.un w, e)
  | .len => (.kn (.rc (headN e.n) 1 0), e)
  | .hole => (.kn (.rc (headN e.n) 1 0), { e with n := e.n.tail })
def fillV : TV → Env D → AV D × Env D
  | .skip, e => (.dead, e)
  | .undef, e => (.undef, e)
  | .int k, e => (.int k (.sym (headI e.i)), { e with i := e.i.tail })
  | .bool, e => (.bool (.sym (headB e.b)), { e with b := e.b.tail })
  | .num k n, e => (.int k (.lit n), e)
  | .truth b, e => (.bool (.lit b), e)
  | .ptr b off, e => (.ptr b (.lit off), e)
  | .nilptr, e => (.nilptr, e)
  | .slice b off cap, e => match cap with
    | .any => (.slice b (.lit off) (.rc (headN e.n) 1 0) .any, { e with n := e.n.tail })
    | .un w => (.slice b (.lit off) (.rc (headN e.n) 1 0) (.un w), { e with n := e.n.tail })
    | .len => (.slice b (.lit off) (.rc (headN e.n) 1 0) (.kn (.rc (headN e.n) 1 0)), { e with n := e.n.tail })
    | .hole => (.slice b (.lit off) (.rc (headN e.n) 1 0) (.kn (.rc (headN e.n.tail) 1 0)), { e with n := e.n.tail.tail })
  | .nilslice, e => (.nilslice, e)
  | .func f, e => (.func (.func f) [] [], e)
  | .empty b, e => (.slice b (.lit 0) (.lit 0) (.kn (.lit 0)), e)
  | .clo f bs, e => (.func (.func f) [] (bs.map fun b => .ptr b (.lit 0)), e)
  | .sstr, e => (.sstr (headF e.f) (headN e.n) (headN e.n.tail), { e with n := e.n.tail.tail, f := e.f.tail })
def fillL : List TV → Env D → List (AV D) × Env D
  | [], e => ([], e)
  | t :: ts, e => let r := fillV t e; let q := fillL ts r.2; (r.1 :: q.1, q.2)
def fillF : List CK → List D.F → List (CK × D.F) × List D.F
  | [], l => ([], l)
  | k :: ks, l => let q := fillF ks l.tail; ((k, headF l) :: q.1, q.2)
def fillO : TO → Env D → AO D × Env D
  | .skip, e => (.gone, e)
  | .cells t l, e => let r := fillL l e; (.cells t r.1, r.2)
  | .rows t ks, e => let r := fillF ks e.f; (.rows t (headN e.n) r.1, { e with n := e.n.tail, f := r.2 })
  | .arr t ks, e => let r := fillF ks e.f; (.arr t (headN e.n) r.1, { e with n := e.n.tail, f := r.2 })
def fillH : List TO → Env D → List (AO D) × Env D
  | [], e => ([], e)
  | t :: ts, e => let r := fillO t e; let q := fillH ts r.2; (r.1 :: q.1, q.2)
def Tmpl.fill (t : Tmpl) (e : Env D) : St D :=
  let r := fillL t.slots e
  { slots := r.1, heap := (fillH t.heap r.2).1 }

/-! Out of a state: the holes. 'l': which block of the state a template's block is. -/
def isAt (l : List Nat) (c b : Nat) : Bool := match l[c]? with
  | some d => Nat.beq d b
  | none => false
def litAt : AN D → Option Nat
  | .lit n => some n
  | _ => none
def ptrsAt (l : List Nat) : List Nat → List (AV D) → Bool
  | [], [] => true
  | b :: bs, .ptr c (.lit 0) :: cs => isAt l b c && ptrsAt l bs cs
  | _, _ => false
def readV (l : List Nat) : TV → AV D → Option (Env D)
  | .skip, _ => some .nil
  | .undef, .undef => some .nil
  | .int k, .int k' n => if decide (k = k') then some { Env.nil with i := [n.val] } else none
  | .bool, .bool b => some { Env.nil with b := [b.val] }
  | .num k n, .int k' (.lit m) => if decide (k = k') && decide (n = m) then some .nil else none
  | .truth b, .bool (.lit c) => if b == c then some .nil else none
  | .ptr b off, .ptr c (.lit o) => if isAt l b c && Nat.beq off o then some .nil else none
  | .nilptr, .nilptr => some .nil
  | .slice b off cap, .slice c (.lit o) len k => if isAt l b c && Nat.beq off o then (match len.num with
    | some n => (match cap, k with
      | .any, .any => some { Env.nil with n := [n] }
      | .un v, .un w => if Nat.beq v w then some { Env.nil with n := [n] } else none
      | .hole, .kn m => (match m.num with
        | some q => some { Env.nil with n := [n, q] }
        | none => none)
      | _, _ => none)
    | none => none) else none
  | .nilslice, .nilslice => some .nil
  | .func f, .func (.func g) [] [] => if Nat.beq f g then some .nil else none
  | .clo f bs, .func (.func g) [] cs => if Nat.beq f g && ptrsAt l bs cs then some .nil else none
  | .sstr, .sstr f o n => some { Env.nil with n := [o, n], f := [f] }
  | .empty b, .slice c o len k => if isAt l b c && (anSame o (.lit 0) && (anSame len (.lit 0) && capSame k (.kn (.lit 0)))) then some .nil else none
  | _, _ => none
/-- The first ones. -/
def readP (l : List Nat) : List TV → List (AV D) → Option (Env D)
  | [], _ => some .nil
  | t :: ts, x :: xs => match readV l t x, readP l ts xs with
    | some a, some b => some (a.app b)
    | _, _ => none
  | _ :: _, [] => none
def ckSame : CK → CK → Bool
  | .int k, .int k' => decide (k = k')
  | .bool, .bool => true
  | _, _ => false
def readF : List CK → List (CK × D.F) → Option (List D.F)
  | [], [] => some []
  | k :: ks, (k', f) :: fs => if ckSame k k' then (match readF ks fs with
    | some r => some (f :: r)
    | none => none) else none
  | _, _ => none
/-- One row out of cells. -/
def readRow : List CK → List (AV D) → Option (List D.F)
  | [], _ => some []
  | k :: ks, x :: xs => match cellI k x, readRow ks xs with
    | some n, some r => some (D.updF (D.constF (D.num 0)) (D.nlit 0) n :: r)
    | _, _ => none
  | _ :: _, [] => none
def readO (l : List Nat) : TO → AO D → Option (Env D)
  | .skip, _ => some .nil
  | .cells t ts, .cells u xs => if Nat.beq t u then readP l ts xs else none
  | .rows t ks, .rows u n fs => (match readF ks fs with
    | some r => some { Env.nil with n := [n], f := r }
    | none => none)
  | .arr t ks, .arr u n fs => if Nat.beq t u then (match readF ks fs with
    | some r => some { Env.nil with n := [n], f := r }
    | none => none) else none
  | .arr t ks, .cells u xs => if Nat.beq t u then (match readRow ks xs with
    | some r => some { Env.nil with n := [D.nlit 1], f := r }
    | none => none) else none
  | _, _ => none
def readH (l : List Nat) (h : List (AO D)) : List Nat → List TO → Option (Env D)
  | [], [] => some .nil
  | b :: bs, t :: ts => match h[b]? with
    | some o => (match readO l t o, readH l h bs ts with
      | some a, some c => some (a.app c)
      | _, _ => none)
    | none => none
  | _, _ => none
def TO.skips : TO → Bool
  | .skip => true
  | _ => false
def TO.owns : TO → Bool
  | .cells _ _ | .arr _ _ => true
  | _ => false
def notT (m : Bool) (b : Nat) : List Nat → List TO → Bool
  | c :: bs, o :: os => (bif (m && !o.skips) || o.owns then !(Nat.beq b c) else true) && notT m b bs os
  | _, _ => true
def injT : List Nat → List TO → Bool
  | b :: bs, o :: os => (bif !o.skips then notT o.owns b bs os else true) && injT bs os
  | _, _ => true
def Tmpl.read (t : Tmpl) (n0 : Nat) (l : List Nat) (s : St D) : Option (Env D) :=
  if injT l t.heap && lowB n0 0 l then (match readP l t.slots s.slots, readH l s.heap l t.heap with
    | some a, some b => some (a.app b)
    | _, _ => none) else none
end

/-! ### Sound -/
theorem Env.app_nil {D : Dom} (x : Env D) : (Env.nil : Env D).app x = x := rfl
theorem Env.app_assoc {D : Dom} (x y z : Env D) : (x.app y).app z = x.app (y.app z) := by simp [Env.app, List.append_assoc]

theorem isAt_iff {l : List Nat} {c b : Nat} (h : isAt l c b = true) : at' l c = some b := by
  unfold isAt at h
  unfold at'
  split at h
  · rename_i d hd; rw [hd, Nat.eq_of_beq_eq_true h]
  · cases h

theorem an_num {a : AN DC} {n : Nat} (h : (AN.num a : Option Nat) = some n) : a.den = (AN.rc n 1 0 : AN DC).den := by
  rw [num_den h]; simp [AN.den, nN]

theorem anSame_lit {a : AN DC} {n : Nat} (h : anSame a (.lit n) = true) : a = .lit n := by
  cases a with
  | lit m => rw [Nat.eq_of_beq_eq_true (show Nat.beq m n = true from h)]
  | rc x w c => cases h
theorem ptrsAt_cov {l : List Nat} : ∀ (bs : List Nat) (cs : List (AV DC)), ptrsAt l bs cs = true → covL (at' l) cs (bs.map fun b => .ptr b (.lit 0))
  | [], [], _ => trivial
  | b :: bs, c :: cs, h => by
    unfold ptrsAt at h
    split at h
    · rename_i h1 h2; cases h1
    · rename_i b' bs' c' cs' h1 h2
      cases h1
      cases h2
      rw [Bool.and_eq_true] at h
      exact ⟨⟨isAt_iff h.1, rfl⟩, ptrsAt_cov _ _ h.2⟩
    · cases h
  | [], c :: cs, h => by simp [ptrsAt] at h
  | b :: bs, [], h => by simp [ptrsAt] at h
theorem read_fillV {l : List Nat} : ∀ (t : TV) (x : AV DC) (e r : Env DC), readV l t x = some e → (fillV t (e.app r)).2 = r ∧ covV (at' l) x (fillV t (e.app r)).1 := by
  intro t x e r h
  cases t
  case skip => simp only [readV, Option.some.injEq] at h; subst h; exact ⟨rfl, by simp only [fillV, covV]⟩
  case int k =>
    cases x <;> simp only [readV] at h <;> first | (cases h; done) | skip
    rename_i k' n
    split at h
    · rename_i hk
      have hk' : k = k' := by simpa using hk
      subst hk'
      cases h
      exact ⟨rfl, by simp only [fillV, covV]; exact ⟨trivial, (AI.val_den n).symm⟩⟩
    · cases h
  case num k n =>
    cases x <;> simp only [readV] at h <;> first | (cases h; done) | skip
    rename_i k' m
    cases m <;> simp only [readV] at h <;> first | (cases h; done) | skip
    split at h
    · rename_i hk
      simp only [Bool.and_eq_true, decide_eq_true_eq] at hk
      obtain ⟨rfl, rfl⟩ := hk
      cases h
      exact ⟨rfl, by simp only [fillV, covV]; exact ⟨trivial, trivial⟩⟩
    · cases h
  case truth b =>
    cases x <;> simp only [readV] at h <;> first | (cases h; done) | skip
    rename_i c
    cases c <;> simp only [readV] at h <;> first | (cases h; done) | skip
    split at h
    · rename_i hk
      have := eq_of_beq hk
      subst this
      cases h
      exact ⟨rfl, by simp only [fillV, covV]⟩
    · cases h
  case ptr b off =>
    cases x <;> simp only [readV] at h <;> first | (cases h; done) | skip
    rename_i c o
    cases o <;> simp only [readV] at h <;> first | (cases h; done) | skip
    split at h
    · rename_i hk
      simp only [Bool.and_eq_true] at hk
      have := Nat.eq_of_beq_eq_true hk.2
      subst this
      cases h
      exact ⟨rfl, by simp only [fillV, covV]; exact ⟨isAt_iff hk.1, trivial⟩⟩
    · cases h
  case slice b off cap =>
    cases x <;> simp only [readV] at h <;> first | (cases h; done) | skip
    rename_i c o len k
    cases o <;> simp only [readV] at h <;> first | (cases h; done) | skip
    split at h
    · rename_i hk
      simp only [Bool.and_eq_true] at hk
      have := Nat.eq_of_beq_eq_true hk.2
      subst this
      have hat := isAt_iff hk.1
      cases hn : (AN.num len : Option Nat) with
      | none => rw [hn] at h; cases h
      | some n =>
        rw [hn] at h
        have hd := an_num hn
        cases cap <;> cases k <;> simp only [] at h <;> first | (cases h; done) | skip
        · cases h
          exact ⟨rfl, by simp only [fillV, covV]; exact ⟨hat, trivial, hd, trivial⟩⟩
        · split at h
          · rename_i hw
            have := Nat.eq_of_beq_eq_true hw
            subst this
            cases h
            exact ⟨rfl, by simp only [fillV, covV]; exact ⟨hat, trivial, hd, rfl⟩⟩
          · cases h
        · rename_i m
          cases hm : (AN.num m : Option Nat) with
          | none => rw [hm] at h; cases h
          | some q =>
            rw [hm] at h
            cases h
            exact ⟨rfl, by simp only [fillV, covV]; exact ⟨hat, trivial, hd, an_num hm⟩⟩
    · cases h
  case func f =>
    cases x <;> simp only [readV] at h <;> first | (cases h; done) | skip
    rename_i fn a c
    cases fn <;> cases a <;> cases c <;> simp only [readV] at h <;> first | (cases h; done) | skip
    split at h
    · rename_i hk
      have := Nat.eq_of_beq_eq_true hk
      subst this
      cases h
      exact ⟨rfl, by simp only [fillV, covV, covL]; exact ⟨trivial, trivial, trivial⟩⟩
    · cases h
  case clo f bs =>
    cases x <;> simp only [readV] at h <;> first | (cases h; done) | skip
    rename_i fn a c
    cases fn <;> cases a <;> simp only [readV] at h <;> first | (cases h; done) | skip
    split at h
    · rename_i hk
      rw [Bool.and_eq_true] at hk
      cases h
      have := Nat.eq_of_beq_eq_true hk.1
      subst this
      exact ⟨rfl, by simp only [fillV, covV, covL]; exact ⟨trivial, trivial, ptrsAt_cov _ _ hk.2⟩⟩
    · cases h
  case empty b =>
    cases x <;> simp only [readV] at h <;> first | (cases h; done) | skip
    rename_i c o len k
    split at h
    · rename_i hk
      simp only [Bool.and_eq_true] at hk
      cases h
      have ho := anSame_lit hk.2.1
      have hl := anSame_lit hk.2.2.1
      subst ho hl
      have hc : k = .kn (.lit 0) := by
        have h1 := hk.2.2.2
        cases k <;> simp only [capSame] at h1 <;> first | (cases h1; done) | skip
        rw [anSame_lit h1]
      subst hc
      exact ⟨rfl, by simp only [fillV, covV]; exact ⟨isAt_iff hk.1, trivial, trivial, rfl⟩⟩
    · cases h
  all_goals
    cases x <;> simp only [readV] at h <;> first | (cases h; done) | skip
    cases h
    exact ⟨rfl, by first | (simp only [fillV, covV]; done) | (simp only [fillV, covV]; exact (AB.val_den _).symm) | (simp only [fillV, covV]; exact ⟨rfl, fun _ _ => rfl⟩)⟩
theorem read_fillP {l : List Nat} : ∀ (ts : List TV) (xs : List (AV DC)) (e r : Env DC), readP l ts xs = some e → (fillL ts (e.app r)).2 = r ∧ covP (at' l) xs (fillL ts (e.app r)).1
  | [], xs, e, r, h => by simp only [readP, Option.some.injEq] at h; subst h; exact ⟨rfl, by simp only [fillL]; cases xs <;> simp only [covP]⟩
  | t :: ts, x :: xs, e, r, h => by
    simp only [readP] at h
    split at h
    · rename_i a b h1 h2
      cases h
      rw [Env.app_assoc]
      obtain ⟨k1, k2⟩ := read_fillV t x a (b.app r) h1
      obtain ⟨k3, k4⟩ := read_fillP ts xs b r h2
      simp only [fillL, k1, covP]
      exact ⟨k3, k2, k4⟩
    · cases h
  | _ :: _, [], _, _, h => by simp [readP] at h

theorem covC_refl (n : Nat) : ∀ fs : List (CK × (Nat → Int)), covC n fs fs
  | [] => by simp only [covC]
  | (k, f) :: fs => by simp only [covC]; exact ⟨trivial, by intros; trivial, covC_refl n fs⟩
theorem ckSame_eq {a b : CK} (h : ckSame a b = true) : a = b := by
  cases a <;> cases b <;> simp only [ckSame, Bool.false_eq_true] at h
  · rw [of_decide_eq_true h]
  · rfl
theorem read_fillF : ∀ (ks : List CK) (fs : List (CK × (Nat → Int))) (r q : List (Nat → Int)), (readF (D := DC) ks fs : Option _) = some r → fillF (D := DC) ks (r ++ q) = (fs, q)
  | [], [], r, q, h => by simp only [readF, Option.some.injEq] at h; subst h; rfl
  | k :: ks, (k', f) :: fs, r, q, h => by
    simp only [readF] at h
    split at h
    · rename_i hk
      have hk' : k = k' := ckSame_eq hk
      subst hk'
      split at h
      · rename_i r' hr
        cases h
        have := read_fillF ks fs r' q hr
        simp only [fillF, List.cons_append, List.tail_cons, this]
        rfl
      · cases h
    · cases h
  | [], _ :: _, _, _, h => by simp [readF] at h
  | _ :: _, [], _, _, h => by simp [readF] at h

theorem cellI_cov {k : CK} {x : AV DC} {n : Int} (h : (cellI k x : Option Int) = some n) : covV (fun _ => none) x (colA (D := DC) k (DC.updF (DC.constF (DC.num 0)) (DC.nlit 0) n) (0 : Nat)) := by
  cases k with
  | int k =>
    cases x <;> simp only [cellI] at h <;> first | (cases h; done) | skip
    rename_i k' a
    split at h
    · rename_i hk
      have hk' : k = k' := by simpa using hk
      subst hk'
      have e : (a.val : Int) = n := Option.some.inj h
      subst e
      simp only [colA, covV]
      exact ⟨trivial, (AI.val_den a).symm⟩
    · cases h
  | bool =>
    cases x <;> try (cases h; done)
    rename_i b
    cases b with
    | lit b =>
      have e : (DC.num (bif b then 1 else 0)) = n := Option.some.inj h
      subst e
      simp only [colA, covV]
      cases b <;> rfl
    | sym b =>
      have e : DC.iteI b (DC.num 1) (DC.num 0) = n := Option.some.inj h
      subst e
      simp only [colA, covV]
      cases hb : (b : Bool) <;> rfl
theorem readRow_spec : ∀ (ks : List CK) (xs : List (AV DC)) (r q : List (Nat → Int)), (readRow (D := DC) ks xs : Option _) = some r → (fillF (D := DC) ks (r ++ q)).2 = q ∧ ∀ (c : Nat) k g, (fillF (D := DC) ks (r ++ q)).1[c]? = some (k, g) → ∃ x, xs[c]? = some x ∧ covV (fun _ => none) x (colA (D := DC) k g (0 : Nat))
  | [], xs, r, q, h => by
    simp only [readRow, Option.some.injEq] at h
    subst h
    exact ⟨rfl, fun c k g hc => by simp [fillF] at hc⟩
  | k :: ks, x :: xs, r, q, h => by
    simp only [readRow] at h
    split at h
    · rename_i n r' h1 h2
      cases h
      obtain ⟨g1, g2⟩ := readRow_spec ks xs r' q h2
      refine ⟨by simpa only [fillF, List.cons_append, List.tail_cons] using g1, fun c k0 g hc => ?_⟩
      cases c with
      | zero =>
        simp only [fillF, List.cons_append, List.getElem?_cons_zero, Option.some.injEq, Prod.mk.injEq] at hc
        obtain ⟨rfl, rfl⟩ := hc
        exact ⟨x, rfl, cellI_cov h1⟩
      | succ c =>
        simp only [fillF, List.cons_append, List.tail_cons, List.getElem?_cons_succ] at hc
        simpa using g2 c k0 g hc
    · cases h
  | _ :: _, [], _, _, h => by simp [readRow] at h

theorem read_fillO {l : List Nat} (t : TO) (o : AO DC) (e r : Env DC) (h : readO l t o = some e) : (fillO t (e.app r)).2 = r ∧ covO (at' l) o (fillO t (e.app r)).1 := by
  cases t
  case skip => simp only [readO, Option.some.injEq] at h; subst h; exact ⟨rfl, by simp only [fillO]; cases o <;> simp only [covO]⟩
  case cells t ts =>
    cases o <;> simp only [readO] at h <;> first | (cases h; done) | skip
    split at h
    · rename_i hk
      have := Nat.eq_of_beq_eq_true hk
      subst this
      obtain ⟨h1, h2⟩ := read_fillP ts _ e r h
      exact ⟨h1, by simp only [fillO, covO]; exact ⟨trivial, h2⟩⟩
    · cases h
  case rows t ks =>
    cases o <;> simp only [readO] at h <;> first | (cases h; done) | skip
    split at h
    · rename_i q hq
      cases h
      have := read_fillF ks _ q r.f hq
      simp only [fillO, Env.app, Env.nil, List.nil_append, List.cons_append, List.tail_cons, this]
      exact ⟨trivial, by simp only [covO]; exact ⟨trivial, rfl, covC_refl _ _⟩⟩
    · cases h
  case arr t ks =>
    cases o <;> simp only [readO] at h <;> first | (cases h; done) | skip
    · split at h
      · rename_i hk
        have := Nat.eq_of_beq_eq_true hk
        subst this
        split at h
        · rename_i q hq
          cases h
          obtain ⟨g1, g2⟩ := readRow_spec ks _ q r.f hq
          simp only [fillO, Env.app, Env.nil, List.nil_append, List.cons_append, List.tail_cons, g1]
          refine ⟨trivial, ?_⟩
          simp only [covO]
          refine ⟨trivial, fun i c k g hi hg => ?_⟩
          have hi' : i < 1 := hi
          have hi0 : i = 0 := by omega
          subst hi0
          rw [Nat.zero_mul, Nat.zero_add]
          exact g2 c k g hg
        · cases h
      · cases h
    · split at h
      · rename_i hk
        have := Nat.eq_of_beq_eq_true hk
        subst this
        split at h
        · rename_i q hq
          cases h
          have := read_fillF ks _ q r.f hq
          simp only [fillO, Env.app, Env.nil, List.nil_append, List.cons_append, List.tail_cons, this]
          exact ⟨trivial, by simp only [covO]; exact ⟨trivial, rfl, covC_refl _ _⟩⟩
        · cases h
      · cases h

theorem read_fillH {l : List Nat} {h : List (AO DC)} : ∀ (bs : List Nat) (ts : List TO) (e r : Env DC), readH l h bs ts = some e → (fillH ts (e.app r)).2 = r ∧ covH (at' l) h bs (fillH ts (e.app r)).1
  | [], [], e, r, hh => by simp only [readH, Option.some.injEq] at hh; subst hh; exact ⟨rfl, by simp only [fillH, covH]⟩
  | b :: bs, t :: ts, e, r, hh => by
    simp only [readH] at hh
    cases ho : h[b]? with
    | none => rw [ho] at hh; cases hh
    | some o =>
      rw [ho] at hh
      simp only [] at hh
      split at hh
      · rename_i a c h1 h2
        cases hh
        rw [Env.app_assoc]
        obtain ⟨k1, k2⟩ := read_fillO t o a (c.app r) h1
        obtain ⟨k3, k4⟩ := read_fillH bs ts c r h2
        simp only [fillH, k1, covH, ho]
        exact ⟨k3, k2, k4⟩
      · cases hh
  | [], _ :: _, _, _, hh => by simp [readH] at hh
  | _ :: _, [], _, _, hh => by simp [readH] at hh

theorem fillO_kind (t : TO) (e : Env DC) : (fillO t e).1.live = !t.skips ∧ (fillO t e).1.mine = t.owns := by
  cases t <;> exact ⟨rfl, rfl⟩
theorem notT_fill {m : Bool} {b : Nat} : ∀ (l : List Nat) (ts : List TO) (e : Env DC), notIn m b l (fillH ts e).1 = notT m b l ts
  | [], ts, e => by cases ts <;> simp [notIn, notT, fillH]
  | _ :: _, [], e => by simp [notIn, notT, fillH]
  | c :: l, t :: ts, e => by
    simp only [fillH, notIn, notT, (fillO_kind t e).1, (fillO_kind t e).2]
    rw [notT_fill l ts]
theorem injT_fill : ∀ (l : List Nat) (ts : List TO) (e : Env DC), injB l (fillH ts e).1 = injT l ts
  | [], ts, e => by cases ts <;> simp [injB, injT, fillH]
  | _ :: _, [], e => by simp [injB, injT, fillH]
  | c :: l, t :: ts, e => by
    simp only [fillH, injB, injT, (fillO_kind t e).1, (fillO_kind t e).2]
    rw [injT_fill l ts, notT_fill l ts]

/-- What is read of a state fills the template so that it says less than the state. -/
theorem read_cov {t : Tmpl} {n0 : Nat} {l : List Nat} {s : St DC} {e : Env DC} (h : t.read n0 l s = some e) : Cov n0 l s (t.fill e) := by
  unfold Tmpl.read at h
  split at h
  · rename_i hc
    simp only [Bool.and_eq_true] at hc
    split at h
    · rename_i a b h1 h2
      cases h
      obtain ⟨k1, k2⟩ := read_fillP t.slots s.slots a b h1
      have hb : b = b.app .nil := by simp [Env.app, Env.nil]
      obtain ⟨k3, k4⟩ := read_fillH l t.heap b .nil h2
      rw [← hb] at k4
      refine ⟨by simp only [Tmpl.fill]; exact k2, by simp only [Tmpl.fill, k1]; exact k4, ?_, hc.2⟩
      simp only [Tmpl.fill]
      rw [injT_fill]
      exact hc.1
    · cases h
  · cases h

theorem fillH_len : ∀ (ts : List TO) (e : Env DC), (fillH ts e).1.length = ts.length
  | [], e => rfl
  | t :: ts, e => by simp [fillH, fillH_len ts]
theorem fill_heap (t : Tmpl) (e : Env DC) : (t.fill e).heap.length = t.heap.length := by simp [Tmpl.fill, fillH_len]

/-! ### Loops by templates -/
/-- What a round comes to: how it ends, and the holes of the state then. 'ls': where the template's blocks are. -/
def viewT {D : Dom} (t : Tmpl) (n0 : Nat) (ls : St D → List Nat) (s : St D) (r : T D (Ex D × List (W D))) : T D (Ex D × Option (Env D)) :=
  r.bind fun q => match q.1 with
    | .normal => .ret (.normal, t.read n0 (ls (s.apps q.2)) (s.apps q.2))
    | x => .ret (x, t.read n0 (ls (s.apps q.2)) (s.apps q.2))

/-- All that a tree may pick is so. -/
def T.sat {α : Type} (p : α → Prop) : T DC α → Prop
  | .ret a => p a
  | .br x t e => (bB x = true → t.sat p) ∧ (bB x = false → e.sat p)
  | .fail => False
theorem T.sat_pick {α : Type} {p : α → Prop} : ∀ {t : T DC α}, t.sat p → ∃ a, t.pick = some a ∧ p a
  | .ret a, h => ⟨a, rfl, h⟩
  | .br x t e, h => by
    cases hx : bB x with
    | true => obtain ⟨a, h1, h2⟩ := T.sat_pick (h.1 hx); exact ⟨a, by simp only [T.pick, hx, cond_true]; exact h1, h2⟩
    | false => obtain ⟨a, h1, h2⟩ := T.sat_pick (h.2 hx); exact ⟨a, by simp only [T.pick, hx, cond_false]; exact h1, h2⟩
  | .fail, h => h.elim

/-- Is it so? -/
noncomputable def yes (p : Prop) : Bool := @decide p (Classical.propDecidable p)
theorem of_yes {p : Prop} (h : yes p = true) : p := @of_decide_eq_true p (Classical.propDecidable p) h
theorem yes_of {p : Prop} (h : p) : yes p = true := @decide_eq_true p (Classical.propDecidable p) h

section
variable {P : Program} {X : Cx DC} {w0 : World} {own : List Nat}
/-- One round, seen through the template: again, or out by the block's end. -/
def RoundT (I : Env DC → Prop) (m : Env DC → Nat) (Fin : Env DC → Prop) (id : Nat) (e : Env DC) (t : T DC (Ex DC × Option (Env DC))) : Prop :=
  ∃ x o, t.pick = some (x, o) ∧ ((x = .normal ∧ ∃ e', o = some e' ∧ I e' ∧ m e' < m e) ∨ (x = .exit id ∧ ∃ e', o = some e' ∧ Fin e'))

theorem round_of {t : Tmpl} {n0 : Nat} {ls : St DC → List Nat} {I : Env DC → Prop} {m : Env DC → Nat} {Fin : Env DC → Prop} {id : Nat} {e : Env DC} {r : T DC (Ex DC × List (W DC))}
    (h : RoundT I m Fin id e (viewT t n0 ls (t.fill e) r)) : RoundOk t.fill I m n0 (fun x s' => x = .exit id ∧ ∃ e' l, Fin e' ∧ Cov n0 l s' (t.fill e')) e r := by
  obtain ⟨x, o, h1, h2⟩ := h
  obtain ⟨q, h3, h4⟩ := T.bind_some h1
  refine ⟨q, h3, ?_⟩
  have hq : (x, o) = (q.1, t.read n0 (ls ((t.fill e).apps q.2)) ((t.fill e).apps q.2)) := by
    cases hx : q.1 <;> rw [hx] at h4 <;> exact (T.ret_some h4).symm
  simp only [Prod.mk.injEq] at hq
  obtain ⟨rfl, rfl⟩ := hq
  rcases h2 with ⟨e1, e', e2, e3, e4⟩ | ⟨e1, e', e2, e3⟩
  · exact .inl ⟨e1, e', _, e3, e4, read_cov e2⟩
  · exact .inr ⟨by rw [e1]; simp, fun v => by rw [e1]; simp, e1, e', _, e3, read_cov e2⟩

/-- The writes that make a state another one. -/
def slotW {D : Dom} : Nat → List (AV D) → List (W D)
  | _, [] => []
  | i, v :: l => .slot i v :: slotW (i + 1) l
def objW {D : Dom} (n0 : Nat) : Nat → List (AO D) → List (W D)
  | _, [] => []
  | i, o :: l => (bif Nat.blt i n0 then .obj i o else .new o) :: objW n0 (i + 1) l

theorem slotW_apps : ∀ (l pre : List (AV DC)) (s : St DC) (post : List (AV DC)), s.slots = pre ++ post → post.length = l.length → (s.apps (slotW pre.length l)) = { s with slots := pre ++ l }
  | [], pre, s, post, h, hl => by
    have : post = [] := List.eq_nil_of_length_eq_zero (by simpa using hl)
    subst this
    rw [← h]
    rfl
  | v :: l, pre, s, [], h, hl => by simp at hl
  | v :: l, pre, s, x :: post, h, hl => by
    have h' : (s.app (.slot pre.length v)).slots = (pre ++ [v]) ++ post := by
      simp only [St.app, h]
      rw [List.set_append_right _ _ (Nat.le_refl _)]
      simp
    have := slotW_apps l (pre ++ [v]) (s.app (.slot pre.length v)) post h' (by simpa using hl)
    simp only [slotW, St.apps]
    rw [show pre.length + 1 = (pre ++ [v]).length by simp, this]
    simp [St.app]
theorem objW_apps {n0 : Nat} : ∀ (l pre : List (AO DC)) (s : St DC) (post : List (AO DC)), s.heap = pre ++ post → pre.length + post.length = max n0 pre.length → post.length ≤ l.length → (s.apps (objW n0 pre.length l)) = { s with heap := pre ++ l }
  | [], pre, s, post, h, h0, hl => by
    have : post = [] := List.eq_nil_of_length_eq_zero (by simpa using hl)
    subst this
    simp only [objW, St.apps]
    rw [← h]
  | o :: l, pre, s, [], h, h0, hl => by
    simp at h h0
    have hb : Nat.blt pre.length n0 = false := by
      cases hc : Nat.blt pre.length n0
      · rfl
      · have : pre.length < n0 := by simpa [Nat.blt_eq] using hc
        omega
    simp only [objW, St.apps, hb, cond_false]
    have h' : (s.app (.new o)).heap = (pre ++ [o]) ++ [] := by simp [St.app, h]
    have := objW_apps (n0 := n0) l (pre ++ [o]) (s.app (.new o)) [] h' (by simp; omega) (by simp)
    rw [show pre.length + 1 = (pre ++ [o]).length by simp, this]
    simp [St.app]
  | o :: l, pre, s, x :: post, h, h0, hl => by
    simp at h0
    have hlt : pre.length < n0 := by omega
    have hb : Nat.blt pre.length n0 = true := by simpa [Nat.blt_eq] using hlt
    simp only [objW, St.apps, hb, cond_true]
    have h' : (s.app (.obj pre.length o)).heap = (pre ++ [o]) ++ post := by
      simp only [St.app, h]
      rw [List.set_append_right _ _ (Nat.le_refl _)]
      simp
    have := objW_apps (n0 := n0) l (pre ++ [o]) (s.app (.obj pre.length o)) post h' (by simp; omega) (by simpa using hl)
    rw [show pre.length + 1 = (pre ++ [o]).length by simp, this]
    simp [St.app]

/-- A loop's summary: where the template t fits, and what is asked holds, the state is then t' filled: what t' has of t stays as it was. -/
def loopSum {D : Dom} (t t' : Tmpl) (n0 : Nat) (l : List Nat) (ask : Env D → D.B) (s : St D) : T D (Ex D × List (W D)) :=
  if Nat.beq s.heap.length n0 then (match t.read n0 l s with
  | some e => (match t'.read n0 (List.range t.heap.length) (t.fill e) with
    | some e' => if Nat.beq s.slots.length t'.slots.length && Nat.ble n0 t'.heap.length then .br (ask e) (.ret (.normal, slotW 0 (t'.fill e').slots ++ objW n0 0 (t'.fill e').heap)) .fail else .fail
    | none => .fail)
  | none => .fail) else .fail

theorem fillL_len : ∀ (ts : List TV) (e : Env DC), (fillL ts e).1.length = ts.length
  | [], e => rfl
  | t :: ts, e => by simp [fillL, fillL_len ts]

theorem loopSum_ok {t t' : Tmpl} {n0 : Nat} {l : List Nat} {ask : Env DC → Bool} {f : FuncId} {id : Nat} {ls : St DC → List Nat} {n : Nat} {I : Env DC → Env DC → Prop} {m : Env DC → Env DC → Nat} {Fin : Env DC → Env DC → Prop}
    (hX : Ok P X) (start : ∀ e, ask e = true → I e e) (round : ∀ e0 e, I e0 e → RoundT (I e0) (m e0) (Fin e0) id e (viewT t n0 ls (t.fill e) (ev P X f n (.code (loopAt P f id)) (t.fill e))))
    (fin : ∀ e0 e1, Fin e0 e1 → t'.read n0 (List.range t.heap.length) (t.fill e1) = t'.read n0 (List.range t.heap.length) (t.fill e0))
    (hw : Within P f (.block id (.loop (loopAt P f id)))) (s : St DC) (r : Ex DC × List (W DC)) (hr : (loopSum (D := DC) t t' n0 l ask s).pick = some r) (w0 : World) (own : List Nat) (ρ : List Rb) (a : Act) (w : World) (H : SR w0 own ρ s a w) :
    (Code.block id (.loop (loopAt P f id))).wp P (CodePost w0 own ρ s r) a w := by
  unfold loopSum at hr
  split at hr
  case isFalse => cases hr
  rename_i hn0
  have hn0 := Nat.eq_of_beq_eq_true hn0
  subst hn0
  cases hrd : t.read s.heap.length l s with
  | none => rw [hrd] at hr; cases hr
  | some e0 =>
    rw [hrd] at hr
    simp only [] at hr
    cases hrd' : t'.read s.heap.length (List.range t.heap.length) (t.fill e0) with
    | none => rw [hrd'] at hr; cases hr
    | some e' =>
      rw [hrd'] at hr
      simp only [] at hr
      split at hr
      · rename_i hlen
        simp only [Bool.and_eq_true] at hlen
        have hl1 := Nat.eq_of_beq_eq_true hlen.1
        have hl2 := Nat.le_of_ble_eq_true hlen.2
        rcases T.br_some hr with ⟨h1, h2⟩ | ⟨_, h2⟩
        · have := T.ret_some h2
          subst this
          have hcov := read_cov hrd
          have hn0 : s.heap.length ≤ t.heap.length := by
            have := (covH_get _ _ hcov.heap).1
            rw [fill_heap] at this
            rcases Nat.lt_or_ge t.heap.length s.heap.length with hlt | hge
            · have h3 := lowB_get s.heap.length 0 l hcov.low t.heap.length hlt
              have := (List.getElem?_eq_some_iff.1 h3).1
              omega
            · exact hge
          have hfin : s.apps (slotW 0 (t'.fill e').slots ++ objW s.heap.length 0 (t'.fill e').heap) = t'.fill e' := by
            rw [apps_append]
            have h3 := slotW_apps (t'.fill e').slots [] s s.slots rfl (by rw [hl1]; simp [Tmpl.fill, fillL_len])
            simp only [List.length_nil, List.nil_append] at h3
            rw [h3]
            have h4 := objW_apps (n0 := s.heap.length) (t'.fill e').heap [] { s with slots := (t'.fill e').slots } s.heap rfl (by simp) (by rw [fill_heap]; exact hl2)
            simp only [List.length_nil, List.nil_append] at h4
            rw [h4]
          refine block_loop (S := t.fill) (I := I e0) (m := m e0) (Out := fun x s' => x = .exit id ∧ ∃ e' l, Fin e0 e' ∧ Cov s.heap.length l s' (t.fill e')) (sound (w0 := w0) (own := own) hX n).1 hw (g := e0) (l := l)
            (start e0 h1) hcov (fun e _ => by rw [fill_heap]; exact hn0) (fun e he => round_of (ls := ls) (round e0 e he)) ?_ H
          rintro x s' ⟨rfl, e1, l1, hf, hc1⟩
          refine ⟨l1, t.fill e1, List.range t.heap.length, hc1, by rw [fill_heap]; exact hn0, ?_, .inl ⟨rfl, rfl⟩⟩
          simp only []
          rw [hfin]
          exact read_cov (by rw [fin e0 e1 hf]; exact hrd')
        · cases h2
      · cases hr
end
end Go.Proofs.Ytngcbpcfgolifaa.Ev
