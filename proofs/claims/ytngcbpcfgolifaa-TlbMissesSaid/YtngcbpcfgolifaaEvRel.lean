/- What abstract values, slots and memory stand for; how each is kept by new blocks and by writes. -/
import Derived.Test.YtngcbpcfgolifaaEv
import Derived.Test.YtngcbpcfgolifaaEvPins
namespace Go.Proofs.Ytngcbpcfgolifaa.Ev
open Go.RowKit
set_option linter.unusedVariables false
set_option linter.unusedSimpArgs false

/-- Symbolic terms that are the numbers and bools themselves. -/
@[reducible] def DC : Dom where
  I := Int
  B := Bool
  N := Nat
  F := Nat → Int
  num n := n
  bin op k a b := litBin op k a b
  una op k a := litUna op k a
  conv k n := k.wrap n
  cmp op a b := litCmp op a b
  iteI x a b := cond x a b
  bool b := b
  not b := !b
  eqB a b := a == b
  and a b := a && b
  iteB x a b := cond x a b
  nlit n := n
  toN i := i.toNat
  ofN n := n
  nadd a b := a + b
  get f n := f n
  inb i n := decide (0 ≤ i ∧ i < n)
  ltN a b := decide (a < b)
  nsub a b := a - b
  iteN x a b := cond x a b
  leN a b := decide (a ≤ b)
  eqN a b := decide (a = b)
  updF f n v := fun i => if i = n then v else f i
  blitF f a g b n := fun i => if a ≤ i ∧ i < a + n then g (b + (i - a)) else f i
  constF v := fun _ => v
  iteF x f g := fun i => cond x (f i) (g i)
  eqF f a g b n := (List.range n).all fun i => f (a + i) == g (b + i)
  byteF f := fun i => (((f i).toNat % 256 : Nat) : Int)

/-- A symbolic term as what it is. -/
def nN (x : DC.N) : Nat := x
def fF (f : DC.F) : Nat → Int := f
def bB (x : DC.B) : Bool := x

def AI.den : AI DC → Int
  | .lit n => n
  | .sym x => x
def AB.den : AB DC → Bool
  | .lit b => b
  | .sym x => x
def AN.den : AN DC → Nat
  | .lit n => n
  | .rc x w c => nN x * w + c

theorem AI.val_den (a : AI DC) : (a.val : Int) = a.den := by cases a <;> rfl
theorem AB.val_den (a : AB DC) : (a.val : Bool) = a.den := by cases a <;> rfl

def T.pick {α : Type} : T DC α → Option α
  | .ret a => some a
  | .br x t e => bif bB x then t.pick else e.pick
  | .fail => none

theorem T.pick_bind {α β : Type} (t : T DC α) (f : α → T DC β) : (t.bind f).pick = t.pick.bind fun a => (f a).pick := by
  induction t with
  | ret a => rfl
  | br x t e iht ihe =>
    simp only [T.bind, T.pick]
    generalize bB x = b
    cases b
    · exact ihe
    · exact iht
  | fail => rfl

theorem T.bind_some {α β : Type} {t : T DC α} {f : α → T DC β} {b : β} (h : (t.bind f).pick = some b) : ∃ a, t.pick = some a ∧ (f a).pick = some b := by
  rw [T.pick_bind] at h
  cases ht : t.pick with
  | none => rw [ht] at h; cases h
  | some a => rw [ht] at h; exact ⟨a, rfl, h⟩

theorem T.br_some {α : Type} {x : Bool} {t e : T DC α} {b : α} (h : (T.br (D := DC) x t e).pick = some b) : (x = true ∧ t.pick = some b) ∨ (x = false ∧ e.pick = some b) := by
  cases x
  · exact .inr ⟨rfl, h⟩
  · exact .inl ⟨rfl, h⟩

theorem T.ret_some {α : Type} {a b : α} (h : (T.ret (D := DC) a).pick = some b) : a = b := by
  simpa [T.pick] using h

/-! ### Values -/
/-- A block of memory, how many cells it has, and the cell that is the first one here. -/
abbrev Rb := Nat × Nat × Nat
def Rb.ad (r : Rb) (n : Nat) : Addr := ⟨r.1, r.2.2 + n, none⟩
/-- It is so large, and told from its first cell on. -/
def Rb.own (r : Rb) (n : Nat) : Prop := n = r.2.1 ∧ r.2.2 = 0
theorem Rb.ad_own {r : Rb} {m : Nat} (h : r.own m) (n : Nat) : r.ad n = ⟨r.1, n, none⟩ := by rw [Rb.ad, h.2, Nat.zero_add]
theorem Rb.ad_add (r : Rb) (n m : Nat) : (r.ad n).add m = r.ad (n + m) := by
  unfold Addr.add
  split
  · rename_i h; simp [h]
  · simp [Rb.ad, Nat.add_assoc]

def Cap.ok (r : Rb) (off len : Nat) (p : Option Addr) (c : Nat) : Cap DC → Prop
  | .kn n => c = n.den ∧ p = some (r.ad off)
  | .un w => len ≤ c ∧ ∃ a, p = some (r.ad a) ∧ (c = 0 ∨ (a = off ∧ (w = 0 ∨ off + c * w ≤ r.2.1)))
  | .any => len ≤ c ∧ (0 < len → p = some (r.ad off))
  | .zero => c = 0 ∧ len = 0
  | .ge w lo => len ≤ c ∧ nN lo ≤ c ∧ p = some (r.ad off) ∧ off + c * w ≤ r.2.1

/-- A string's bytes, told by a function. -/
def SStr (f : Nat → Int) (off len : Nat) (s : ByteArray) : Prop := s.size = len ∧ ∀ (i : Nat) (h : i < s.size), ((s[i]'h).toNat : Int) = f (off + i)

mutual
def VRel (ρ : List Rb) : AV DC → Value → Prop
  | .dead, _ => True
  | .undef, v => v = Go.undef
  | .bool b, v => v = .bool b.den
  | .int k n, v => v = .int k n.den
  | .str s, v => v = .string s
  | .sstr f off len, v => ∃ s, v = .string s ∧ SStr (fF f) (nN off) (nN len) s
  | .map b, v => ∃ r, ρ[b]? = some r ∧ v = .map (some r.1)
  | .ptr b off, v => ∃ r, ρ[b]? = some r ∧ v = .pointer (some (r.ad off.den))
  | .nilptr, v => v = .pointer none
  | .slice b off len cap, v => ∃ r, ρ[b]? = some r ∧ ∃ p c, v = .slice p len.den c ∧ cap.ok r off.den len.den p c
  | .nilslice, v => v = .slice none 0 0
  | .func fn f c, v => ∃ f' c', v = .func fn f' c' ∧ VRels ρ f f'.toList ∧ VRels ρ c c'.toList
  | .nilfunc, v => v = .nilFunc
  | .agg cs, v => ∃ vs, v = .agg vs ∧ VRels ρ cs vs.toList
  | .tuple cs, v => ∃ vs, v = .tuple vs ∧ VRels ρ cs vs.toList
def VRels (ρ : List Rb) : List (AV DC) → List Value → Prop
  | [], l => l = []
  | a :: as, l => ∃ v vs, l = v :: vs ∧ VRel ρ a v ∧ VRels ρ as vs
end

/-- More blocks are known. -/
def Ext (ρ ρ' : List Rb) : Prop := ∀ (b : Nat) (r : Rb), ρ[b]? = some r → ρ'[b]? = some r
theorem Ext.refl (ρ : List Rb) : Ext ρ ρ := fun _ _ h => h
theorem Ext.trans {a b c : List Rb} (h : Ext a b) (k : Ext b c) : Ext a c := fun _ _ x => k _ _ (h _ _ x)
theorem Ext.push (ρ : List Rb) (l : List Rb) : Ext ρ (ρ ++ l) := fun b r h => by
  rw [List.getElem?_append_left]
  · exact h
  · exact (List.getElem?_eq_some_iff.1 h).1

mutual
theorem VRel.mono {ρ ρ' : List Rb} (H : Ext ρ ρ') : ∀ (a : AV DC) (v : Value), VRel ρ a v → VRel ρ' a v
  | .dead, _, _ => trivial
  | .undef, _, h => h
  | .bool _, _, h => h
  | .int _ _, _, h => h
  | .str _, _, h => h
  | .sstr _ _ _, _, h => h
  | .map _, _, ⟨r, h, e⟩ => ⟨r, H _ _ h, e⟩
  | .ptr _ _, _, ⟨r, h, e⟩ => ⟨r, H _ _ h, e⟩
  | .nilptr, _, h => h
  | .slice _ _ _ _, _, ⟨r, h, e⟩ => ⟨r, H _ _ h, e⟩
  | .nilslice, _, h => h
  | .func _ f c, _, ⟨f', c', e, h1, h2⟩ => ⟨f', c', e, VRels.mono H f _ h1, VRels.mono H c _ h2⟩
  | .nilfunc, _, h => h
  | .agg cs, _, ⟨vs, e, h⟩ => ⟨vs, e, VRels.mono H cs _ h⟩
  | .tuple cs, _, ⟨vs, e, h⟩ => ⟨vs, e, VRels.mono H cs _ h⟩
theorem VRels.mono {ρ ρ' : List Rb} (H : Ext ρ ρ') : ∀ (as : List (AV DC)) (l : List Value), VRels ρ as l → VRels ρ' as l
  | [], _, h => h
  | a :: as, _, ⟨v, vs, e, h1, h2⟩ => ⟨v, vs, e, VRel.mono H a v h1, VRels.mono H as vs h2⟩
end

mutual
/-- What was there before any new block speaks of no new block. -/
theorem VRel.back {ρ0 ρ1 : List Rb} (H : Ext ρ0 ρ1) : ∀ (a : AV DC) (v v0 : Value), VRel ρ1 a v → VRel ρ0 a v0 → VRel ρ0 a v
  | .dead, _, _, _, _ => trivial
  | .undef, _, _, h, _ => h
  | .bool _, _, _, h, _ => h
  | .int _ _, _, _, h, _ => h
  | .str _, _, _, h, _ => h
  | .sstr _ _ _, _, _, h, _ => h
  | .map _, _, _, ⟨r, h, e⟩, ⟨r0, h0, _⟩ => ⟨r0, h0, by have := H _ _ h0; rw [this] at h; cases h; exact e⟩
  | .ptr _ _, _, _, ⟨r, h, e⟩, ⟨r0, h0, _⟩ => ⟨r0, h0, by have := H _ _ h0; rw [this] at h; cases h; exact e⟩
  | .nilptr, _, _, h, _ => h
  | .slice _ _ _ _, _, _, ⟨r, h, e⟩, ⟨r0, h0, _⟩ => ⟨r0, h0, by have := H _ _ h0; rw [this] at h; cases h; exact e⟩
  | .nilslice, _, _, h, _ => h
  | .func _ f c, _, _, ⟨f', c', e, h1, h2⟩, ⟨_, _, _, k1, k2⟩ => ⟨f', c', e, VRels.back H f _ _ h1 k1, VRels.back H c _ _ h2 k2⟩
  | .nilfunc, _, _, h, _ => h
  | .agg cs, _, _, ⟨vs, e, h⟩, ⟨_, _, k⟩ => ⟨vs, e, VRels.back H cs _ _ h k⟩
  | .tuple cs, _, _, ⟨vs, e, h⟩, ⟨_, _, k⟩ => ⟨vs, e, VRels.back H cs _ _ h k⟩
theorem VRels.back {ρ0 ρ1 : List Rb} (H : Ext ρ0 ρ1) : ∀ (as : List (AV DC)) (l l0 : List Value), VRels ρ1 as l → VRels ρ0 as l0 → VRels ρ0 as l
  | [], _, _, h, _ => h
  | a :: as, _, _, ⟨v, vs, e, h1, h2⟩, ⟨v0, vs0, _, k1, k2⟩ => ⟨v, vs, e, VRel.back H a v v0 h1 k1, VRels.back H as vs vs0 h2 k2⟩
end

section
variable {ρ : List Rb}
theorem VRels.length : ∀ {as : List (AV DC)} {l : List Value}, VRels ρ as l → l.length = as.length
  | [], _, h => by rw [show _ = [] from h]; rfl
  | _ :: _, _, ⟨_, _, e, _, h⟩ => by rw [e]; simp [VRels.length h]
theorem VRels.get : ∀ {as : List (AV DC)} {l : List Value} {i : Nat} {a : AV DC}, VRels ρ as l → as[i]? = some a → ∃ v, l[i]? = some v ∧ VRel ρ a v
  | [], _, _, _, _, h => by simp at h
  | _ :: _, _, 0, _, ⟨v, vs, e, h1, _⟩, h => by
    subst e
    simp only [List.getElem?_cons_zero, Option.some.injEq] at h
    subst h
    exact ⟨v, rfl, h1⟩
  | _ :: _, _, i + 1, _, ⟨v, vs, e, _, h2⟩, h => by
    subst e
    simp only [List.getElem?_cons_succ] at h ⊢
    exact VRels.get h2 h
theorem VRels.of_get : ∀ {as : List (AV DC)} {l : List Value}, l.length = as.length → (∀ (i : Nat) a, as[i]? = some a → ∃ v, l[i]? = some v ∧ VRel ρ a v) → VRels ρ as l
  | [], l, h, _ => by
    have : l = [] := List.eq_nil_of_length_eq_zero (by simpa using h)
    subst this
    rfl
  | a :: as, [], h, _ => by simp at h
  | a :: as, v :: vs, h, H => ⟨v, vs, rfl, by
      obtain ⟨u, hu, hr⟩ := H 0 a rfl
      simp only [List.getElem?_cons_zero, Option.some.injEq] at hu
      subst hu
      exact hr, VRels.of_get (by simpa using h) fun i x hx => by
      obtain ⟨u, hu, hr⟩ := H (i + 1) x (by simpa using hx)
      exact ⟨u, by simpa using hu, hr⟩⟩
theorem VRels.cons {a : AV DC} {as : List (AV DC)} {v : Value} {l : List Value} (h : VRel ρ a v) (h' : VRels ρ as l) : VRels ρ (a :: as) (v :: l) := ⟨v, l, rfl, h, h'⟩
theorem VRels.nil : VRels ρ [] [] := rfl
theorem VRels.append {as bs : List (AV DC)} {l m : List Value} (h : VRels ρ as l) (h' : VRels ρ bs m) : VRels ρ (as ++ bs) (l ++ m) := by
  induction as generalizing l with
  | nil => rw [show l = [] from h]; exact h'
  | cons a as ih =>
    obtain ⟨v, vs, rfl, h1, h2⟩ := h
    exact ⟨v, vs ++ m, rfl, h1, ih h2⟩
theorem VRels.drop {as : List (AV DC)} {l : List Value} (n : Nat) (h : VRels ρ as l) : VRels ρ (as.drop n) (l.drop n) :=
  .of_get (by simp [h.length]) fun i a ha => by
    rw [List.getElem?_drop] at ha ⊢
    exact h.get ha
theorem VRels.take {as : List (AV DC)} {l : List Value} (n : Nat) (h : VRels ρ as l) : VRels ρ (as.take n) (l.take n) :=
  .of_get (by simp [h.length]) fun i a ha => by
    rw [List.getElem?_take] at ha ⊢
    split at ha
    · rename_i hi; rw [if_pos hi]; exact h.get ha
    · cases ha
theorem VRels.set {as : List (AV DC)} {l : List Value} {i : Nat} {a : AV DC} {v : Value} (h : VRels ρ as l) (hv : VRel ρ a v) : VRels ρ (as.set i a) (l.set i v) :=
  .of_get (by simp [h.length]) fun j x hx => by
    rw [List.getElem?_set] at hx ⊢
    by_cases hij : i = j
    · subst hij
      rw [if_pos rfl] at hx ⊢
      have := h.length
      by_cases hl : i < as.length
      · rw [if_pos hl] at hx
        rw [if_pos (by omega)]
        cases hx
        exact ⟨v, rfl, hv⟩
      · rw [if_neg hl] at hx
        cases hx
    · rw [if_neg hij] at hx ⊢
      exact h.get hx
theorem VRels.map {α : Type} (f : α → AV DC) (g : α → Value) : ∀ l : List α, (∀ x ∈ l, VRel ρ (f x) (g x)) → VRels ρ (l.map f) (l.map g)
  | [], _ => rfl
  | x :: l, h => ⟨g x, l.map g, rfl, h x (by simp), VRels.map f g l fun y hy => h y (by simp [hy])⟩
theorem VRels.undefs : ∀ n, VRels ρ (undefs n) (List.replicate n Go.undef)
  | 0 => rfl
  | n + 1 => ⟨_, _, by rw [List.replicate_succ], rfl, VRels.undefs n⟩

theorem ofVal1_rel (v : Value) : VRel ρ (ofVal1 v) v := by
  unfold ofVal1
  split <;> first | rfl | trivial
theorem ofVal_rel (v : Value) : VRel ρ (ofVal v) v := by
  unfold ofVal
  split
  · rename_i cs
    refine ⟨cs, rfl, ?_⟩
    have := VRels.map (ρ := ρ) ofVal1 id cs.toList fun x _ => ofVal1_rel x
    simpa using this
  · exact ofVal1_rel _

theorem cells_rel {a : AV DC} {v : Value} (h : VRel ρ a v) (hd : a ≠ .dead) : VRels ρ a.cellsA v.cells.toList := by
  cases a <;> simp only [VRel] at h <;> first
    | (exact absurd rfl hd)
    | (subst h; exact ⟨_, [], rfl, rfl, rfl⟩)
    | (obtain ⟨r, hr, rfl⟩ := h; exact ⟨_, [], rfl, ⟨r, hr, rfl⟩, rfl⟩)
    | (obtain ⟨r, hr, a, c, rfl, h⟩ := h; exact ⟨_, [], rfl, ⟨r, hr, a, c, rfl, h⟩, rfl⟩)
    | (obtain ⟨s, rfl, h⟩ := h; exact ⟨_, [], rfl, ⟨s, rfl, h⟩, rfl⟩)
    | (obtain ⟨f', c', rfl, h1, h2⟩ := h; exact ⟨_, [], rfl, ⟨f', c', rfl, h1, h2⟩, rfl⟩)
    | skip
  · obtain ⟨vs, rfl, h⟩ := h
    exact h

/-! ### Slots -/
structure RS (ρ : List Rb) (s : List (AV DC)) (a : Act) : Prop where
  size : s.length ≤ a.tmps.size
  rel : ∀ (t : Nat) v, s[t]? = some v → VRel ρ v (a.tmps.getD t Go.undef)
  defers : a.defers = []

theorem RS.mono {ρ ρ' : List Rb} {s : List (AV DC)} {a : Act} (h : RS ρ s a) (H : Ext ρ ρ') : RS ρ' s a :=
  ⟨h.size, fun t v ht => (h.rel t v ht).mono H, h.defers⟩

theorem getD_put (a : Act) (d : Nat) (v : Value) (t : Nat) (h : t < a.tmps.size) : (a.put (some d) v).tmps.getD t Go.undef = if d = t then v else a.tmps.getD t Go.undef := by
  simp only [Act.put, Array.getD_eq_getD_getElem?, Array.getElem?_setIfInBounds]
  by_cases hd : d = t
  · subst hd; simp [h]
  · simp [hd]

theorem RS.put {s : List (AV DC)} {a : Act} (h : RS ρ s a) {d : Nat} {v : AV DC} {u : Value} (hv : VRel ρ v u) : RS ρ (s.set d v) (a.put (some d) u) := by
  refine ⟨by simpa [Act.put] using h.size, fun t x hx => ?_, h.defers⟩
  have ht : t < s.length := by
    have := (List.getElem?_eq_some_iff.1 hx).1
    simpa using this
  have hta : t < a.tmps.size := Nat.lt_of_lt_of_le ht h.size
  rw [getD_put a d u t hta]
  rw [List.getElem?_set] at hx
  by_cases hd : d = t
  · rw [if_pos hd] at hx ⊢
    subst hd
    rw [if_pos ht] at hx
    cases hx
    exact hv
  · rw [if_neg hd] at hx ⊢
    exact h.rel t x hx

/-- A slot said anew. -/
theorem RS.again {s : List (AV DC)} {a : Act} (h : RS ρ s a) {d : Nat} {v : AV DC} (hv : d < s.length → VRel ρ v (a.tmps.getD d Go.undef)) : RS ρ (s.set d v) a := by
  refine ⟨by simpa using h.size, fun t x hx => ?_, h.defers⟩
  have ht : t < s.length := by
    have := (List.getElem?_eq_some_iff.1 hx).1
    simpa using this
  rw [List.getElem?_set] at hx
  by_cases hd : d = t
  · rw [if_pos hd] at hx
    subst hd
    rw [if_pos ht] at hx
    cases hx
    exact hv ht
  · rw [if_neg hd] at hx
    exact h.rel t x hx

theorem getD_some {α : Type} {l : List α} {i : Nat} {d : α} : l.getD i d = d ∨ l[i]? = some (l.getD i d) := by
  by_cases h : i < l.length
  · right; simp [List.getD, List.getElem?_eq_getElem h]
  · left; simp [List.getD, List.getElem?_eq_none (Nat.le_of_not_lt h)]

theorem RS.getD {s : List (AV DC)} {a : Act} (h : RS ρ s a) (t : Nat) : VRel ρ (s.getD t .dead) (a.tmps.getD t Go.undef) := by
  rcases getD_some (l := s) (i := t) (d := AV.dead) with e | e
  · rw [e]; trivial
  · exact h.rel t _ e

theorem evalA_rel {s : List (AV DC)} {a : Act} (h : RS ρ s a) (x : Operand) : VRel ρ (evalA s x) (a.eval x) := by
  cases x with
  | tmp t => exact h.getD t
  | const v => exact ofVal_rel v
  | global g => trivial
  | func f => exact ⟨#[], #[], rfl, rfl, rfl⟩

theorem evalA_map {s : List (AV DC)} {a : Act} (h : RS ρ s a) (l : List Operand) : VRels ρ (l.map (evalA s)) (l.map a.eval) :=
  VRels.map _ _ l fun x _ => evalA_rel h x

/-! ### Memory -/
/-- A field's value. -/
def CK.val : CK → Int → Value
  | .int k, n => .int k n
  | .bool, n => .bool (litCmp .neq n 0)

def RowsRel (d n : Nat) (fs : List (CK × (Nat → Int))) (vs : Array Value) : Prop := ∀ (i c : Nat) k f, i < n → fs[c]? = some (k, f) → vs[d + (i * fs.length + c)]? = some (k.val (f i))

def ORel (ρ : List Rb) (r : Rb) : AO DC → Option Obj → Prop
  | .gone, _ => True
  | .cells t cs, o => ∃ vs, o = some (.cells vs t (0, 0)) ∧ r.own vs.size ∧ VRels ρ cs (vs.toList.take cs.length)
  | .rows _ n fs, o => 0 < nN n → ∃ vs t fz, o = some (.cells vs t fz) ∧ RowsRel r.2.2 (nN n) fs vs
  | .arr t n fs, o => ∃ vs, o = some (.cells vs t (0, 0)) ∧ r.own vs.size ∧ RowsRel 0 (nN n) fs vs
  | .map ks xs, o => ∃ es cl, o = some (.map es cl) ∧ VRels ρ ks (es.toList.map (·.key)) ∧ VRels ρ xs (es.toList.map (·.val))

theorem ORel.mono {ρ ρ' : List Rb} (H : Ext ρ ρ') {r : Rb} {o : AO DC} {x : Option Obj} (h : ORel ρ r o x) : ORel ρ' r o x := by
  cases o with
  | gone => trivial
  | cells t cs => obtain ⟨vs, e, hs, hv⟩ := h; exact ⟨vs, e, hs, hv.mono H⟩
  | rows t n fs => exact h
  | arr t n fs => exact h
  | map ks xs => obtain ⟨es, cl, e, h1, h2⟩ := h; exact ⟨es, cl, e, h1.mono H, h2.mono H⟩

/-- Is it written to? -/
def AO.mine : AO DC → Bool
  | .cells _ _ | .arr _ _ _ | .map _ _ => true
  | _ => false
def AO.live : AO DC → Bool
  | .gone => false
  | _ => true
/-- Does it stand for a block? (No rows: none.) -/
def AO.real : AO DC → Prop
  | .gone => False
  | .rows _ n _ => 0 < nN n
  | _ => True
theorem AO.real_of_mine {o : AO DC} (h : o.mine = true) : o.real := by cases o <;> first | trivial | cases h
theorem AO.live_of_real {o : AO DC} (h : o.real) : o.live = true := by cases o <;> first | rfl | cases h
theorem ORel.unreal {ρ : List Rb} {r : Rb} {o : AO DC} {x : Option Obj} (h : ¬ o.real) : ORel ρ r o x := by
  cases o with
  | gone => trivial
  | rows t n fs => exact fun h0 => absurd h0 h
  | _ => exact absurd trivial h

/-- What is known of some blocks that nobody writes to. -/
def Pin (w0 : World) (own : List Nat) : Prop := ∀ (b : Nat) (vs : List Value), (b, vs) ∈ pins → b ∉ own ∧ ∃ a t fz, w0.heap[b]? = some (.cells a t fz) ∧ ∀ (i : Nat) v, vs[i]? = some v → a[i]? = some v

structure WR (w0 : World) (own : List Nat) (ρ : List Rb) (h : List (AO DC)) (w : World) : Prop where
  len : ρ.length = h.length
  inj : ∀ (i j : Nat) (r r' : Rb) o o', h[i]? = some o → h[j]? = some o' → o.mine = true → o'.real → ρ[i]? = some r → ρ[j]? = some r' → r.1 = r'.1 → i = j
  lt : ∀ (i : Nat) (r : Rb) o, h[i]? = some o → o.real → ρ[i]? = some r → r.1 < w.heap.size
  new : ∀ (i : Nat) (r : Rb) o, h[i]? = some o → o.mine = true → ρ[i]? = some r → r.1 ∈ own ∨ w0.heap.size ≤ r.1
  obj : ∀ (i : Nat) o (r : Rb), h[i]? = some o → ρ[i]? = some r → ORel ρ r o w.heap[r.1]?
  frame : ∀ b : Nat, b < w0.heap.size → b ∉ own → w.heap[b]? = w0.heap[b]?
  size : w0.heap.size ≤ w.heap.size
  os : w.os = w0.os
  tape : w.tape = w0.tape
  output : w.output = w0.output
  pin : Pin w0 own

variable {w0 w : World} {own : List Nat} {h : List (AO DC)}
theorem WR.drew (H : WR w0 own ρ h w) : WR w0 own ρ h w.drew := ⟨H.len, H.inj, H.lt, H.new, H.obj, H.frame, H.size, H.os, H.tape, H.output, H.pin⟩

theorem WR.block (H : WR w0 own ρ h w) {b : Nat} {o : AO DC} (hb : h[b]? = some o) : ∃ r : Rb, ρ[b]? = some r ∧ (o.real → r.1 < w.heap.size) ∧ ORel ρ r o w.heap[r.1]? := by
  have hl : b < ρ.length := by rw [H.len]; exact (List.getElem?_eq_some_iff.1 hb).1
  have hr : ρ[b]? = some ρ[b] := List.getElem?_eq_getElem hl
  exact ⟨_, hr, fun ho => H.lt _ _ _ hb ho hr, H.obj _ _ _ hb hr⟩

theorem VRels.take_all {as : List (AV DC)} {l : List Value} (hv : VRels ρ as l) : VRels ρ as (l.take as.length) := by
  rw [List.take_of_length_le (Nat.le_of_eq hv.length)]
  exact hv
theorem VRels.le {as : List (AV DC)} {l : List Value} (hv : VRels ρ as (l.take as.length)) : as.length ≤ l.length := by
  have := hv.length
  simp at this
  omega

/-- A new block of any kind. -/
theorem WR.push (H : WR w0 own ρ h w) {o : AO DC} {x : Obj} {sz : Nat} (ho : ORel (ρ ++ [(w.heap.size, sz, 0)]) (w.heap.size, sz, 0) o (some x)) :
    WR w0 own (ρ ++ [(w.heap.size, sz, 0)]) (h ++ [o]) (w.alloc x) := by
  have hx := Ext.push ρ [(w.heap.size, sz, 0)]
  have old : ∀ {i : Nat} {r : Rb}, (ρ ++ [(w.heap.size, sz, 0)])[i]? = some r → (i < ρ.length ∧ ρ[i]? = some r) ∨ (i = ρ.length ∧ r = (w.heap.size, sz, 0)) := fun {i r} hi => by
    rw [List.getElem?_append] at hi
    split at hi
    · rename_i hl; exact .inl ⟨hl, hi⟩
    · rename_i hl
      have hl' : i - ρ.length = 0 := by
        have := (List.getElem?_eq_some_iff.1 hi).1
        simp at this
        omega
      rw [hl'] at hi
      simp at hi
      exact .inr ⟨by omega, hi.symm⟩
  have hold : ∀ {i : Nat} {o' : AO DC}, i < ρ.length → (h ++ [o])[i]? = some o' → h[i]? = some o' := fun {i o'} hl ho' => by
    rwa [List.getElem?_append_left (by rw [← H.len]; exact hl)] at ho'
  refine ⟨by simp [H.len], ?_, ?_, ?_, ?_, ?_, ?_, H.os, H.tape, H.output, H.pin⟩
  · intro i j r r' o1 o2 h1 h2 l1 l2 hi hj e
    rcases old hi with ⟨g1, k1⟩ | ⟨e1, k1⟩ <;> rcases old hj with ⟨g2, k2⟩ | ⟨e2, k2⟩
    · exact H.inj i j r r' o1 o2 (hold g1 h1) (hold g2 h2) l1 l2 k1 k2 e
    · have := H.lt _ _ _ (hold g1 h1) (AO.real_of_mine l1) k1; rw [e, k2] at this; exact absurd this (Nat.lt_irrefl _)
    · have := H.lt _ _ _ (hold g2 h2) l2 k2; rw [← e, k1] at this; exact absurd this (Nat.lt_irrefl _)
    · omega
  · intro i r o' ho' hl' hi
    rcases old hi with ⟨hl, h1⟩ | ⟨_, h1⟩
    · have := H.lt _ _ _ (hold hl ho') hl' h1; simp; omega
    · simp [h1]
  · intro i r o' ho' hm hi
    rcases old hi with ⟨hl, h1⟩ | ⟨_, h1⟩
    · exact H.new i r o' (hold hl ho') hm h1
    · right; rw [h1]; exact H.size
  · intro i o' r ho' hi
    rcases old hi with ⟨hl, h1⟩ | ⟨e, h1⟩
    · by_cases hl' : o'.real
      · have hne : r.1 < w.heap.size := H.lt _ _ _ (hold hl ho') hl' h1
        rw [Below.heap_alloc w _ r.1 hne]
        exact (H.obj i o' r (hold hl ho') h1).mono hx
      · exact ORel.unreal hl'
    · subst e h1
      rw [H.len, List.getElem?_append_right (Nat.le_refl _)] at ho'
      simp at ho'
      subst ho'
      rw [heap_alloc_new]
      exact ho
  · intro b hb hn
    rw [Below.heap_alloc w _ b (Nat.lt_of_lt_of_le hb H.size)]
    exact H.frame b hb hn
  · have := H.size; simp; omega

theorem WR.alloc (H : WR w0 own ρ h w) {t : TypeId} {cs : List (AV DC)} {vs : Array Value} (hv : VRels ρ cs vs.toList) :
    WR w0 own (ρ ++ [(w.heap.size, vs.size, 0)]) (h ++ [.cells t cs]) (w.alloc (.cells vs t (0, 0))) :=
  H.push ⟨vs, rfl, ⟨rfl, rfl⟩, (hv.mono (Ext.push ρ _)).take_all⟩

theorem setObj_length : ∀ (h : List (AO DC)) (b i : Nat) (v : AV DC), (setObj h b i v).length = h.length
  | [], _, _, _ => rfl
  | o :: h, 0, _, _ => by cases o <;> rfl
  | o :: h, b + 1, i, v => by cases o <;> simp [setObj, setObj_length h b i v]

theorem setObj_other : ∀ (h : List (AO DC)) (b i : Nat) (v : AV DC) (c : Nat), c ≠ b → (setObj h b i v)[c]? = h[c]?
  | [], _, _, _, _, _ => rfl
  | o :: h, 0, i, v, c, hc => by
    obtain ⟨c, rfl⟩ : ∃ m, c = m + 1 := ⟨c - 1, by omega⟩
    cases o <;> simp [setObj]
  | o :: h, b + 1, i, v, 0, _ => by cases o <;> simp [setObj]
  | o :: h, b + 1, i, v, c + 1, hc => by cases o <;> simp [setObj, setObj_other h b i v c (by omega)]

theorem setObj_same : ∀ (h : List (AO DC)) (b i : Nat) (v : AV DC), (setObj h b i v)[b]? = (h[b]?).map fun
    | .cells t cs => .cells t (cs.set i v)
    | o => o
  | [], _, _, _ => by simp [setObj]
  | o :: h, 0, i, v => by cases o <;> simp [setObj]
  | o :: h, b + 1, i, v => by cases o <;> simp [setObj, setObj_same h b i v]

/-- One block of its own turned, in the world and in what is known. -/
theorem WR.turn (H : WR w0 own ρ h w) {b : Nat} {r : Rb} {o o' : AO DC} {h' : List (AO DC)} {w' : World} (hb : h[b]? = some o) (hm : o.mine = true) (hr : ρ[b]? = some r)
    (hl : h'.length = h.length) (hsame : h'[b]? = some o') (hother : ∀ c, c ≠ b → h'[c]? = h[c]?) (hw : ORel ρ r o' w'.heap[r.1]?)
    (hwo : ∀ c, c ≠ r.1 → w'.heap[c]? = w.heap[c]?) (hws : w'.heap.size = w.heap.size) (hos : w'.os = w.os) (ht : w'.tape = w.tape) (ho : w'.output = w.output) : WR w0 own ρ h' w' := by
  have hown := H.new _ _ _ hb hm hr
  have hlive : ∀ {i : Nat} {x : AO DC}, h'[i]? = some x → x.real → ∃ y, h[i]? = some y ∧ y.real := fun {i x} hx hxl => by
    by_cases hi : i = b
    · subst hi; exact ⟨o, hb, AO.real_of_mine hm⟩
    · rw [hother i hi] at hx; exact ⟨x, hx, hxl⟩
  refine ⟨by rw [hl, H.len], ?_, fun i q x hx hxl hq => by rw [hws]; obtain ⟨y, hy, ly⟩ := hlive hx hxl; exact H.lt i q y hy ly hq, ?_, ?_, ?_, by rw [hws]; exact H.size, hos.trans H.os, ht.trans H.tape, ho.trans H.output, H.pin⟩
  · intro i j q q' x x' hx hx' l1 l2 hi hj e
    obtain ⟨y, hy, ly⟩ : ∃ y, h[i]? = some y ∧ y.mine = true := by
      by_cases hi : i = b
      · subst hi; exact ⟨o, hb, hm⟩
      · rw [hother i hi] at hx; exact ⟨x, hx, l1⟩
    obtain ⟨y', hy', ly'⟩ := hlive hx' l2
    exact H.inj i j q q' y y' hy hy' ly ly' hi hj e
  · intro i q x hx hxm hq
    by_cases hi : i = b
    · subst hi; rw [hr] at hq; cases hq; exact hown
    · rw [hother i hi] at hx; exact H.new i q x hx hxm hq
  · intro i x q hx hq
    by_cases hi : i = b
    · subst hi
      rw [hr] at hq; cases hq
      rw [hsame] at hx; cases hx
      exact hw
    · rw [hother i hi] at hx
      by_cases hxl : x.real
      · have hne : q.1 ≠ r.1 := fun e => hi (H.inj b i r q o x hb hx hm hxl hr hq e.symm).symm
        rw [hwo _ hne]
        exact H.obj i x q hx hq
      · exact ORel.unreal hxl
  · intro c hc hn
    have hne : c ≠ r.1 := fun e => by
      rcases hown with h1 | h1
      · exact hn (e ▸ h1)
      · omega
    rw [hwo c hne]
    exact H.frame c hc hn

theorem take_set {l : List Value} {n i : Nat} {u : Value} : (l.set i u).take n = (l.take n).set i u := by
  apply List.ext_getElem?
  intro j
  simp only [List.getElem?_take, List.getElem?_set, List.length_take]
  by_cases h1 : j < n
  · rw [if_pos h1, if_pos h1]
    by_cases h2 : i = j
    · rw [if_pos h2, if_pos h2]
      by_cases h3 : i < l.length
      · rw [if_pos h3, if_pos (by omega)]
      · rw [if_neg h3, if_neg (by omega)]
    · rw [if_neg h2, if_neg h2]
  · rw [if_neg h1, if_neg h1]
    by_cases h2 : i = j
    · rw [if_pos h2, if_neg (by omega)]
    · rw [if_neg h2]

theorem WR.setCell (H : WR w0 own ρ h w) {b i : Nat} {r : Rb} {t : TypeId} {cs : List (AV DC)} (hb : h[b]? = some (.cells t cs)) (hr : ρ[b]? = some r) {v : AV DC} {u : Value} (hv : VRel ρ v u) :
    WR w0 own ρ (setObj h b i v) (w.setCell (r.ad i) u) := by
  obtain ⟨vs, hvs, hsz, hrel⟩ := H.obj _ _ _ hb hr
  rw [Rb.ad_own hsz]
  refine H.turn hb rfl hr (setObj_length ..) (o' := .cells t (cs.set i v)) (by rw [setObj_same, hb]; rfl) (fun c hc => setObj_other h b i v c hc) ?_ (fun c hc => heap_setCell_other w ⟨r.1, i, none⟩ c u hc) (by simp) rfl rfl rfl
  rw [heap_setCell_same w r.1 i vs t u hvs]
  refine ⟨_, rfl, by simpa using hsz, ?_⟩
  simp only [Array.toList_setIfInBounds, List.length_set, take_set]
  exact hrel.set hv

/-- Fewer blocks are known. -/
theorem WR.less (H : WR w0 own ρ h w) {ρ' : List Rb} {h' : List (AO DC)} (hx : Ext ρ' ρ) (hl : ρ'.length = h'.length)
    (hi : ∀ (i : Nat) o, h'[i]? = some o → o.real → ∃ o', h[i]? = some o' ∧ o'.real) (hi2 : ∀ (i : Nat) o, h'[i]? = some o → o.mine = true → ∃ o', h[i]? = some o' ∧ o'.mine = true)
    (hn : ∀ (i : Nat) (r : Rb) o, h'[i]? = some o → o.mine = true → ρ'[i]? = some r → r.1 ∈ own ∨ w0.heap.size ≤ r.1)
    (ho : ∀ (i : Nat) o (r : Rb), h'[i]? = some o → ρ'[i]? = some r → ORel ρ' r o w.heap[r.1]?) : WR w0 own ρ' h' w :=
  ⟨hl, fun i j r r' o o' h1 h2 l1 l2 hi' hj e => by
    obtain ⟨y, hy, ly⟩ := hi2 i o h1 l1
    obtain ⟨y', hy', ly'⟩ := hi j o' h2 l2
    exact H.inj i j r r' y y' hy hy' ly ly' (hx _ _ hi') (hx _ _ hj) e, fun i r o h1 l1 hi' => by obtain ⟨y, hy, ly⟩ := hi i o h1 l1; exact H.lt i r y hy ly (hx _ _ hi'), hn, ho, H.frame, H.size, H.os, H.tape, H.output, H.pin⟩

/-- A block is forgotten. -/
theorem WR.forget (H : WR w0 own ρ h w) (b : Nat) : WR w0 own ρ (h.set b .gone) w := by
  refine H.less (Ext.refl _) (by simpa using H.len) (fun i o hi hl => ?_) (fun i o hi hm' => ?_) (fun i r o hi hm hr => ?_) fun i o r hi hr => ?_
  all_goals
    rw [List.getElem?_set] at hi
    by_cases e : b = i
    · subst e
      rw [if_pos rfl] at hi
      split at hi
      · cases hi; first | exact hl.elim | cases hm | cases hm' | trivial
      · cases hi
    · rw [if_neg e] at hi
      first | exact ⟨o, hi, hl⟩ | exact ⟨o, hi, hm'⟩ | exact H.new _ _ _ hi hm hr | exact H.obj _ _ _ hi hr
end
end Go.Proofs.Ytngcbpcfgolifaa.Ev
