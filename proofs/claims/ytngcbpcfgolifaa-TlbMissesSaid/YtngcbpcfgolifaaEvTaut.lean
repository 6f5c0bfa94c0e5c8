/- Formulas of bits, and a test that one is true whatever the bits are. Conditions: none. -/
import Derived.Test.YtngcbpcfgolifaaEvBits
namespace Go.Proofs.Ytngcbpcfgolifaa.Ev
set_option linter.unusedVariables false
set_option linter.unusedSimpArgs false

inductive BE where
  | lit (b : Bool)
  | v (n : Nat)
  | not (a : BE)
  | and (a b : BE)
  | beq (a b : BE)
  | cond (c a b : BE)

def BE.den (f : List Bool) : BE → Bool
  | .lit b => b
  | .v n => f.getD n false
  | .not a => !a.den f
  | .and a b => a.den f && b.den f
  | .beq a b => a.den f == b.den f
  | .cond c a b => _root_.cond (c.den f) (a.den f) (b.den f)

def BE.mkNot : BE → BE
  | .lit b => .lit (!b)
  | .not a => a
  | a => .not a
def BE.mkAnd : BE → BE → BE
  | .lit true, b => b
  | .lit false, _ => .lit false
  | a, .lit true => a
  | _, .lit false => .lit false
  | a, b => .and a b
def BE.mkBeq : BE → BE → BE
  | .lit true, b => b
  | .lit false, b => mkNot b
  | a, .lit true => a
  | a, .lit false => mkNot a
  | a, b => .beq a b
def BE.mkCond : BE → BE → BE → BE
  | .lit true, a, _ => a
  | .lit false, _, b => b
  | c, .lit true, .lit true => .lit true
  | c, .lit false, .lit false => .lit false
  | c, .lit true, .lit false => c
  | c, .lit false, .lit true => mkNot c
  | c, a, .lit false => .and c a
  | c, a, b => .cond c a b

/-- The formula where one bit is known. -/
def BE.sub (n : Nat) (b : Bool) : BE → BE
  | .lit c => .lit c
  | .v m => if Nat.beq m n then .lit b else .v m
  | .not a => mkNot (a.sub n b)
  | .and a c => match a.sub n b with
    | .lit false => .lit false
    | x => mkAnd x (c.sub n b)
  | .beq a c => mkBeq (a.sub n b) (c.sub n b)
  | .cond c x y => match c.sub n b with
    | .lit true => x.sub n b
    | .lit false => y.sub n b
    | z => mkCond z (x.sub n b) (y.sub n b)

theorem BE.mkNot_den (f : List Bool) (a : BE) : (mkNot a).den f = !a.den f := by
  unfold mkNot
  split <;> simp [den]
theorem BE.mkAnd_den (f : List Bool) (a b : BE) : (mkAnd a b).den f = (a.den f && b.den f) := by
  unfold mkAnd
  split <;> simp [den]
theorem BE.mkBeq_den (f : List Bool) (a b : BE) : (mkBeq a b).den f = (a.den f == b.den f) := by
  unfold mkBeq
  split <;> simp [den, mkNot_den]
theorem BE.mkCond_den (f : List Bool) (c a b : BE) : (mkCond c a b).den f = _root_.cond (c.den f) (a.den f) (b.den f) := by
  unfold mkCond
  split <;> simp [den, mkNot_den]

theorem BE.sub_den {f : List Bool} {n : Nat} {b : Bool} (h : f.getD n false = b) : ∀ e : BE, (e.sub n b).den f = e.den f
  | .lit c => rfl
  | .v m => by
    unfold sub
    split
    · rename_i hm
      obtain rfl := Nat.eq_of_beq_eq_true hm
      exact h.symm
    · rfl
  | .not a => by
    unfold sub
    rw [mkNot_den, sub_den h a]
    rfl
  | .and a c => by
    have ha := sub_den h a
    have hc := sub_den h c
    unfold sub
    show _ = (a.den f && c.den f)
    rw [← ha, ← hc]
    split
    · rename_i e
      rw [e]
      rfl
    · rw [mkAnd_den]
  | .beq a c => by
    unfold sub
    rw [mkBeq_den, sub_den h a, sub_den h c]
    rfl
  | .cond c x y => by
    have hc := sub_den h c
    have hx := sub_den h x
    have hy := sub_den h y
    unfold sub
    show _ = _root_.cond (c.den f) (x.den f) (y.den f)
    rw [← hc, ← hx, ← hy]
    split
    · rename_i e
      rw [e]
      rfl
    · rename_i e
      rw [e]
      rfl
    · rw [mkCond_den]

/-- True whatever the bits are. -/
def BE.taut : List Nat → BE → Bool
  | _, .lit b => b
  | [], _ => false
  | n :: ns, e => match taut ns (e.sub n true) with
    | true => taut ns (e.sub n false)
    | false => false

theorem BE.taut_den (f : List Bool) : ∀ (ns : List Nat) (e : BE), taut ns e = true → e.den f = true
  | [], .lit b, h => by unfold taut at h; exact h
  | _ :: _, .lit b, h => by unfold taut at h; exact h
  | [], .v _, h => by cases h
  | [], .not _, h => by cases h
  | [], .and _ _, h => by cases h
  | [], .beq _ _, h => by cases h
  | [], .cond _ _ _, h => by cases h
  | n :: ns, .v m, h => step f ns n _ (taut_den f ns) h
  | n :: ns, .not a, h => step f ns n _ (taut_den f ns) h
  | n :: ns, .and a b, h => step f ns n _ (taut_den f ns) h
  | n :: ns, .beq a b, h => step f ns n _ (taut_den f ns) h
  | n :: ns, .cond a b c, h => step f ns n _ (taut_den f ns) h
where
  step (f : List Bool) (ns : List Nat) (n : Nat) (e : BE) (ih : ∀ e : BE, taut ns e = true → e.den f = true) (h : (match taut ns (e.sub n true) with | true => taut ns (e.sub n false) | false => false) = true) : e.den f = true := by
    cases h1 : taut ns (e.sub n true) with
    | false => rw [h1] at h; cases h
    | true =>
      rw [h1] at h
      cases hb : f.getD n false with
      | true => rw [← sub_den hb e]; exact ih _ h1
      | false => rw [← sub_den hb e]; exact ih _ h

theorem shr_mask_eq {x : Int} (hx : inU x) (j : Nat) (hj : j ≤ 64) (m c : Nat) (l : List (Nat × Bool)) (hok : okMask m c l = true) : litCmp .eql (litBin .and .u64 (litBin .shr .u64 x (j : Int)) (m : Int)) (c : Int) = l.all fun p => bit x (j + p.1) == p.2 := by
  rw [mask_eq (inU.shr hx j hj) m c l hok]
  simp only [bit_shr hx j hj]
theorem shr_mask_neq {x : Int} (hx : inU x) (j : Nat) (hj : j ≤ 64) (m c : Nat) (l : List (Nat × Bool)) (hok : okMask m c l = true) : litCmp .neq (litBin .and .u64 (litBin .shr .u64 x (j : Int)) (m : Int)) (c : Int) = !l.all fun p => bit x (j + p.1) == p.2 := by
  rw [← shr_mask_eq hx j hj m c l hok]
  rfl
theorem neq_not (x y : Int) : litCmp .neq x y = !litCmp .eql x y := rfl
theorem cmp_condl (op : BinOp) (c : Bool) (x y z : Int) : litCmp op (cond c x y) z = cond c (litCmp op x z) (litCmp op y z) := by cases c <;> rfl
theorem cmp_condr (op : BinOp) (c : Bool) (x y z : Int) : litCmp op z (cond c x y) = cond c (litCmp op z x) (litCmp op z y) := by cases c <;> rfl
theorem cong3 {a a' b b' c c' : Bool} (h1 : a = a') (h2 : b = b') (h3 : c = c') : cond a b c = cond a' b' c' := by rw [h1, h2, h3]
theorem congA {a a' b b' : Bool} (h1 : a = a') (h2 : b = b') : (a && b) = (a' && b') := by rw [h1, h2]
theorem congE {a a' b b' : Bool} (h1 : a = a') (h2 : b = b') : (a == b) = (a' == b') := by rw [h1, h2]
theorem congO {a a' b b' : Bool} (h1 : a = a') (h2 : b = b') : (a || b) = cond a' true b' := by rw [h1, h2]; cases a' <;> rfl
theorem congB {a a' : Bool} (h1 : a = a') : (!a) = (!a') := by rw [h1]
theorem congN {a a' b b' : Bool} (h1 : a = a') (h2 : b = b') : (a && !b) = (a' && !b') := by rw [h1, h2]
/-- A number is one thing alone. -/
theorem eql_apart (x a b : Int) (h : decide (a = b) = false) : litCmp .eql x b = (!litCmp .eql x a && litCmp .eql x b) := by
  have h' := of_decide_eq_false h
  rw [eql_eq, eql_eq]
  by_cases e : x = b
  · have : x ≠ a := fun g => h' (g.symm.trans e)
    simp [e, this, Ne.symm h']
  · simp [e]
theorem eql_apart2 (x a b c : Int) (h1 : decide (a = c) = false) (h2 : decide (b = c) = false) : litCmp .eql x c = (!litCmp .eql x a && (!litCmp .eql x b && litCmp .eql x c)) := by
  rw [← eql_apart x b c h2, ← eql_apart x a c h1]
end Go.Proofs.Ytngcbpcfgolifaa.Ev
