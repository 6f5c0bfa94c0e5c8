/- What abstract values, slots and memory stand for; how each is kept by new blocks and by writes. -/
import Derived.Test.YtgljicadcegilaaEv
namespace Go.Proofs.Ytgljicadcegilaa.Ev
open Go.RowKit
set_option linter.unusedVariables false
set_option linter.unusedSimpArgs false

/-- Symbolic terms that are the numbers and bools themselves. -/
@[reducible] def DC : Dom where
  I := Int
  B := Bool
  N := Nat
  F := Nat → Int
  num n := n
  bin op k a b := litBin op k a b
  una op k a := litUna op k a
  conv k n := k.wrap n
  cmp op a b := litCmp op a b
  iteI x a b := cond x a b
  bool b := b
  not b := !b
  eqB a b := a == b
  and a b := a && b
  iteB x a b := cond x a b
  nlit n := n
  toN i := i.toNat
  ofN n := n
  nadd a b := a + b
  get f n := f n
  inb i n := decide (0 ≤ i ∧ i < n)
  ltN a b := decide (a < b)

/-- A symbolic term as what it is. -/
def nN (x : DC.N) : Nat := x
def fF (f : DC.F) : Nat → Int := f
def bB (x : DC.B) : Bool := x

def AI.den : AI DC → Int
  | .lit n => n
  | .sym x => x
def AB.den : AB DC → Bool
  | .lit b => b
  | .sym x => x
def AN.den : AN DC → Nat
  | .lit n => n
  | .rc x w c => nN x * w + c

theorem AI.val_den (a : AI DC) : (a.val : Int) = a.den := by cases a <;> rfl
theorem AB.val_den (a : AB DC) : (a.val : Bool) = a.den := by cases a <;> rfl

def T.pick {α : Type} : T DC α → Option α
  | .ret a => some a
  | .br x t e => bif bB x then t.pick else e.pick
  | .fail => none

theorem T.pick_bind {α β : Type} (t : T DC α) (f : α → T DC β) : (t.bind f).pick = t.pick.bind fun a => (f a).pick := by
  induction t with
  | ret a => rfl
  | br x t e iht ihe =>
    simp only [T.bind, T.pick]
    generalize bB x = b
    cases b
    · exact ihe
    · exact iht
  | fail => rfl

theorem T.bind_some {α β : Type} {t : T DC α} {f : α → T DC β} {b : β} (h : (t.bind f).pick = some b) : ∃ a, t.pick = some a ∧ (f a).pick = some b := by
  rw [T.pick_bind] at h
  cases ht : t.pick with
  | none => rw [ht] at h; cases h
  | some a => rw [ht] at h; exact ⟨a, rfl, h⟩

theorem T.br_some {α : Type} {x : Bool} {t e : T DC α} {b : α} (h : (T.br (D := DC) x t e).pick = some b) : (x = true ∧ t.pick = some b) ∨ (x = false ∧ e.pick = some b) := by
  cases x
  · exact .inr ⟨rfl, h⟩
  · exact .inl ⟨rfl, h⟩

theorem T.ret_some {α : Type} {a b : α} (h : (T.ret (D := DC) a).pick = some b) : a = b := by
  simpa [T.pick] using h

/-! ### Values -/
mutual
def VRel (ρ : List Nat) : AV DC → Value → Prop
  | .dead, _ => True
  | .undef, v => v = Go.undef
  | .bool b, v => v = .bool b.den
  | .int k n, v => v = .int k n.den
  | .str s, v => v = .string s
  | .ptr b off, v => ∃ r, ρ[b]? = some r ∧ v = .pointer (some ⟨r, off.den, none⟩)
  | .nilptr, v => v = .pointer none
  | .slice b off len cap, v => ∃ r, ρ[b]? = some r ∧ v = .slice (some ⟨r, off.den, none⟩) len.den cap.den
  | .nilslice, v => v = .slice none 0 0
  | .func fn f c, v => ∃ f' c', v = .func fn f' c' ∧ VRels ρ f f'.toList ∧ VRels ρ c c'.toList
  | .nilfunc, v => v = .nilFunc
  | .agg cs, v => ∃ vs, v = .agg vs ∧ VRels ρ cs vs.toList
  | .tuple cs, v => ∃ vs, v = .tuple vs ∧ VRels ρ cs vs.toList
def VRels (ρ : List Nat) : List (AV DC) → List Value → Prop
  | [], l => l = []
  | a :: as, l => ∃ v vs, l = v :: vs ∧ VRel ρ a v ∧ VRels ρ as vs
end

/-- More blocks are known. -/
def Ext (ρ ρ' : List Nat) : Prop := ∀ (b r : Nat), ρ[b]? = some r → ρ'[b]? = some r
theorem Ext.refl (ρ : List Nat) : Ext ρ ρ := fun _ _ h => h
theorem Ext.trans {a b c : List Nat} (h : Ext a b) (k : Ext b c) : Ext a c := fun _ _ x => k _ _ (h _ _ x)
theorem Ext.push (ρ : List Nat) (l : List Nat) : Ext ρ (ρ ++ l) := fun b r h => by
  rw [List.getElem?_append_left]
  · exact h
  · exact (List.getElem?_eq_some_iff.1 h).1

mutual
theorem VRel.mono {ρ ρ' : List Nat} (H : Ext ρ ρ') : ∀ (a : AV DC) (v : Value), VRel ρ a v → VRel ρ' a v
  | .dead, _, _ => trivial
  | .undef, _, h => h
  | .bool _, _, h => h
  | .int _ _, _, h => h
  | .str _, _, h => h
  | .ptr _ _, _, ⟨r, h, e⟩ => ⟨r, H _ _ h, e⟩
  | .nilptr, _, h => h
  | .slice _ _ _ _, _, ⟨r, h, e⟩ => ⟨r, H _ _ h, e⟩
  | .nilslice, _, h => h
  | .func _ f c, _, ⟨f', c', e, h1, h2⟩ => ⟨f', c', e, VRels.mono H f _ h1, VRels.mono H c _ h2⟩
  | .nilfunc, _, h => h
  | .agg cs, _, ⟨vs, e, h⟩ => ⟨vs, e, VRels.mono H cs _ h⟩
  | .tuple cs, _, ⟨vs, e, h⟩ => ⟨vs, e, VRels.mono H cs _ h⟩
theorem VRels.mono {ρ ρ' : List Nat} (H : Ext ρ ρ') : ∀ (as : List (AV DC)) (l : List Value), VRels ρ as l → VRels ρ' as l
  | [], _, h => h
  | a :: as, _, ⟨v, vs, e, h1, h2⟩ => ⟨v, vs, e, VRel.mono H a v h1, VRels.mono H as vs h2⟩
end

mutual
/-- What was there before any new block speaks of no new block. -/
theorem VRel.back {ρ0 ρ1 : List Nat} (H : Ext ρ0 ρ1) : ∀ (a : AV DC) (v v0 : Value), VRel ρ1 a v → VRel ρ0 a v0 → VRel ρ0 a v
  | .dead, _, _, _, _ => trivial
  | .undef, _, _, h, _ => h
  | .bool _, _, _, h, _ => h
  | .int _ _, _, _, h, _ => h
  | .str _, _, _, h, _ => h
  | .ptr _ _, _, _, ⟨r, h, e⟩, ⟨r0, h0, _⟩ => ⟨r0, h0, by have := H _ _ h0; rw [this] at h; cases h; exact e⟩
  | .nilptr, _, _, h, _ => h
  | .slice _ _ _ _, _, _, ⟨r, h, e⟩, ⟨r0, h0, _⟩ => ⟨r0, h0, by have := H _ _ h0; rw [this] at h; cases h; exact e⟩
  | .nilslice, _, _, h, _ => h
  | .func _ f c, _, _, ⟨f', c', e, h1, h2⟩, ⟨_, _, _, k1, k2⟩ => ⟨f', c', e, VRels.back H f _ _ h1 k1, VRels.back H c _ _ h2 k2⟩
  | .nilfunc, _, _, h, _ => h
  | .agg cs, _, _, ⟨vs, e, h⟩, ⟨_, _, k⟩ => ⟨vs, e, VRels.back H cs _ _ h k⟩
  | .tuple cs, _, _, ⟨vs, e, h⟩, ⟨_, _, k⟩ => ⟨vs, e, VRels.back H cs _ _ h k⟩
theorem VRels.back {ρ0 ρ1 : List Nat} (H : Ext ρ0 ρ1) : ∀ (as : List (AV DC)) (l l0 : List Value), VRels ρ1 as l → VRels ρ0 as l0 → VRels ρ0 as l
  | [], _, _, h, _ => h
  | a :: as, _, _, ⟨v, vs, e, h1, h2⟩, ⟨v0, vs0, _, k1, k2⟩ => ⟨v, vs, e, VRel.back H a v v0 h1 k1, VRels.back H as vs vs0 h2 k2⟩
end

section
variable {ρ : List Nat}
theorem VRels.length : ∀ {as : List (AV DC)} {l : List Value}, VRels ρ as l → l.length = as.length
  | [], _, h => by rw [show _ = [] from h]; rfl
  | _ :: _, _, ⟨_, _, e, _, h⟩ => by rw [e]; simp [VRels.length h]
theorem VRels.get : ∀ {as : List (AV DC)} {l : List Value} {i : Nat} {a : AV DC}, VRels ρ as l → as[i]? = some a → ∃ v, l[i]? = some v ∧ VRel ρ a v
  | [], _, _, _, _, h => by simp at h
  | _ :: _, _, 0, _, ⟨v, vs, e, h1, _⟩, h => by
    subst e
    simp only [List.getElem?_cons_zero, Option.some.injEq] at h
    subst h
    exact ⟨v, rfl, h1⟩
  | _ :: _, _, i + 1, _, ⟨v, vs, e, _, h2⟩, h => by
    subst e
    simp only [List.getElem?_cons_succ] at h ⊢
    exact VRels.get h2 h
theorem VRels.of_get : ∀ {as : List (AV DC)} {l : List Value}, l.length = as.length → (∀ (i : Nat) a, as[i]? = some a → ∃ v, l[i]? = some v ∧ VRel ρ a v) → VRels ρ as l
  | [], l, h, _ => by
    have : l = [] := List.eq_nil_of_length_eq_zero (by simpa using h)
    subst this
    rfl
  | a :: as, [], h, _ => by simp at h
  | a :: as, v :: vs, h, H => ⟨v, vs, rfl, by
      obtain ⟨u, hu, hr⟩ := H 0 a rfl
      simp only [List.getElem?_cons_zero, Option.some.injEq] at hu
      subst hu
      exact hr, VRels.of_get (by simpa using h) fun i x hx => by
      obtain ⟨u, hu, hr⟩ := H (i + 1) x (by simpa using hx)
      exact ⟨u, by simpa using hu, hr⟩⟩
theorem VRels.cons {a : AV DC} {as : List (AV DC)} {v : Value} {l : List Value} (h : VRel ρ a v) (h' : VRels ρ as l) : VRels ρ (a :: as) (v :: l) := ⟨v, l, rfl, h, h'⟩
theorem VRels.nil : VRels ρ [] [] := rfl
theorem VRels.append {as bs : List (AV DC)} {l m : List Value} (h : VRels ρ as l) (h' : VRels ρ bs m) : VRels ρ (as ++ bs) (l ++ m) := by
  induction as generalizing l with
  | nil => rw [show l = [] from h]; exact h'
  | cons a as ih =>
    obtain ⟨v, vs, rfl, h1, h2⟩ := h
    exact ⟨v, vs ++ m, rfl, h1, ih h2⟩
theorem VRels.drop {as : List (AV DC)} {l : List Value} (n : Nat) (h : VRels ρ as l) : VRels ρ (as.drop n) (l.drop n) :=
  .of_get (by simp [h.length]) fun i a ha => by
    rw [List.getElem?_drop] at ha ⊢
    exact h.get ha
theorem VRels.take {as : List (AV DC)} {l : List Value} (n : Nat) (h : VRels ρ as l) : VRels ρ (as.take n) (l.take n) :=
  .of_get (by simp [h.length]) fun i a ha => by
    rw [List.getElem?_take] at ha ⊢
    split at ha
    · rename_i hi; rw [if_pos hi]; exact h.get ha
    · cases ha
theorem VRels.set {as : List (AV DC)} {l : List Value} {i : Nat} {a : AV DC} {v : Value} (h : VRels ρ as l) (hv : VRel ρ a v) : VRels ρ (as.set i a) (l.set i v) :=
  .of_get (by simp [h.length]) fun j x hx => by
    rw [List.getElem?_set] at hx ⊢
    by_cases hij : i = j
    · subst hij
      rw [if_pos rfl] at hx ⊢
      have := h.length
      by_cases hl : i < as.length
      · rw [if_pos hl] at hx
        rw [if_pos (by omega)]
        cases hx
        exact ⟨v, rfl, hv⟩
      · rw [if_neg hl] at hx
        cases hx
    · rw [if_neg hij] at hx ⊢
      exact h.get hx
theorem VRels.map {α : Type} (f : α → AV DC) (g : α → Value) : ∀ l : List α, (∀ x ∈ l, VRel ρ (f x) (g x)) → VRels ρ (l.map f) (l.map g)
  | [], _ => rfl
  | x :: l, h => ⟨g x, l.map g, rfl, h x (by simp), VRels.map f g l fun y hy => h y (by simp [hy])⟩
theorem VRels.undefs : ∀ n, VRels ρ (undefs n) (List.replicate n Go.undef)
  | 0 => rfl
  | n + 1 => ⟨_, _, by rw [List.replicate_succ], rfl, VRels.undefs n⟩

theorem ofVal1_rel (v : Value) : VRel ρ (ofVal1 v) v := by
  unfold ofVal1
  split <;> first | rfl | trivial
theorem ofVal_rel (v : Value) : VRel ρ (ofVal v) v := by
  unfold ofVal
  split
  · rename_i cs
    refine ⟨cs, rfl, ?_⟩
    have := VRels.map (ρ := ρ) ofVal1 id cs.toList fun x _ => ofVal1_rel x
    simpa using this
  · exact ofVal1_rel _

theorem cells_rel {a : AV DC} {v : Value} (h : VRel ρ a v) (hd : a ≠ .dead) : VRels ρ a.cellsA v.cells.toList := by
  cases a <;> simp only [VRel] at h <;> first
    | (exact absurd rfl hd)
    | (subst h; exact ⟨_, [], rfl, rfl, rfl⟩)
    | (obtain ⟨r, hr, rfl⟩ := h; exact ⟨_, [], rfl, ⟨r, hr, rfl⟩, rfl⟩)
    | (obtain ⟨f', c', rfl, h1, h2⟩ := h; exact ⟨_, [], rfl, ⟨f', c', rfl, h1, h2⟩, rfl⟩)
    | skip
  · obtain ⟨vs, rfl, h⟩ := h
    exact h
  · obtain ⟨vs, rfl, h⟩ := h
    exact ⟨_, [], rfl, ⟨vs, rfl, h⟩, rfl⟩

/-! ### Slots -/
structure RS (ρ : List Nat) (s : List (AV DC)) (a : Act) : Prop where
  size : s.length ≤ a.tmps.size
  rel : ∀ (t : Nat) v, s[t]? = some v → VRel ρ v (a.tmps.getD t Go.undef)
  defers : a.defers = []

theorem RS.mono {ρ ρ' : List Nat} {s : List (AV DC)} {a : Act} (h : RS ρ s a) (H : Ext ρ ρ') : RS ρ' s a :=
  ⟨h.size, fun t v ht => (h.rel t v ht).mono H, h.defers⟩

theorem getD_put (a : Act) (d : Nat) (v : Value) (t : Nat) (h : t < a.tmps.size) : (a.put (some d) v).tmps.getD t Go.undef = if d = t then v else a.tmps.getD t Go.undef := by
  simp only [Act.put, Array.getD_eq_getD_getElem?, Array.getElem?_setIfInBounds]
  by_cases hd : d = t
  · subst hd; simp [h]
  · simp [hd]

theorem RS.put {s : List (AV DC)} {a : Act} (h : RS ρ s a) {d : Nat} {v : AV DC} {u : Value} (hv : VRel ρ v u) : RS ρ (s.set d v) (a.put (some d) u) := by
  refine ⟨by simpa [Act.put] using h.size, fun t x hx => ?_, h.defers⟩
  have ht : t < s.length := by
    have := (List.getElem?_eq_some_iff.1 hx).1
    simpa using this
  have hta : t < a.tmps.size := Nat.lt_of_lt_of_le ht h.size
  rw [getD_put a d u t hta]
  rw [List.getElem?_set] at hx
  by_cases hd : d = t
  · rw [if_pos hd] at hx ⊢
    subst hd
    rw [if_pos ht] at hx
    cases hx
    exact hv
  · rw [if_neg hd] at hx ⊢
    exact h.rel t x hx

/-- A slot said anew. -/
theorem RS.again {s : List (AV DC)} {a : Act} (h : RS ρ s a) {d : Nat} {v : AV DC} (hv : d < s.length → VRel ρ v (a.tmps.getD d Go.undef)) : RS ρ (s.set d v) a := by
  refine ⟨by simpa using h.size, fun t x hx => ?_, h.defers⟩
  have ht : t < s.length := by
    have := (List.getElem?_eq_some_iff.1 hx).1
    simpa using this
  rw [List.getElem?_set] at hx
  by_cases hd : d = t
  · rw [if_pos hd] at hx
    subst hd
    rw [if_pos ht] at hx
    cases hx
    exact hv ht
  · rw [if_neg hd] at hx
    exact h.rel t x hx

theorem getD_some {α : Type} {l : List α} {i : Nat} {d : α} : l.getD i d = d ∨ l[i]? = some (l.getD i d) := by
  by_cases h : i < l.length
  · right; simp [List.getD, List.getElem?_eq_getElem h]
  · left; simp [List.getD, List.getElem?_eq_none (Nat.le_of_not_lt h)]

theorem RS.getD {s : List (AV DC)} {a : Act} (h : RS ρ s a) (t : Nat) : VRel ρ (s.getD t .dead) (a.tmps.getD t Go.undef) := by
  rcases getD_some (l := s) (i := t) (d := AV.dead) with e | e
  · rw [e]; trivial
  · exact h.rel t _ e

theorem evalA_rel {s : List (AV DC)} {a : Act} (h : RS ρ s a) (x : Operand) : VRel ρ (evalA s x) (a.eval x) := by
  cases x with
  | tmp t => exact h.getD t
  | const v => exact ofVal_rel v
  | global g => trivial
  | func f => exact ⟨#[], #[], rfl, rfl, rfl⟩

theorem evalA_map {s : List (AV DC)} {a : Act} (h : RS ρ s a) (l : List Operand) : VRels ρ (l.map (evalA s)) (l.map a.eval) :=
  VRels.map _ _ l fun x _ => evalA_rel h x

/-! ### Memory -/
def ORel (ρ : List Nat) : AO DC → Option Obj → Prop
  | .gone, _ => True
  | .cells t cs, o => ∃ vs, o = some (.cells vs t (0, 0)) ∧ VRels ρ cs vs.toList
  | .rows t n fs, o => ∃ vs fz, o = some (.cells vs t fz) ∧ ∀ (i c : Nat) k f, i < nN n → fs[c]? = some (k, f) → vs[i * fs.length + c]? = some (.int k (fF f i))

theorem ORel.mono {ρ ρ' : List Nat} (H : Ext ρ ρ') {o : AO DC} {x : Option Obj} (h : ORel ρ o x) : ORel ρ' o x := by
  cases o with
  | gone => trivial
  | cells t cs => obtain ⟨vs, e, hv⟩ := h; exact ⟨vs, e, hv.mono H⟩
  | rows t n fs => exact h

structure WR (w0 : World) (own : List Nat) (ρ : List Nat) (h : List (AO DC)) (w : World) : Prop where
  len : ρ.length = h.length
  inj : ∀ (i j r : Nat), ρ[i]? = some r → ρ[j]? = some r → i = j
  lt : ∀ (i r : Nat), ρ[i]? = some r → r < w.heap.size
  new : ∀ (i r : Nat) t cs, h[i]? = some (.cells t cs) → ρ[i]? = some r → r ∈ own ∨ w0.heap.size ≤ r
  obj : ∀ (i : Nat) o (r : Nat), h[i]? = some o → ρ[i]? = some r → ORel ρ o w.heap[r]?
  frame : ∀ b : Nat, b < w0.heap.size → b ∉ own → w.heap[b]? = w0.heap[b]?
  size : w0.heap.size ≤ w.heap.size
  os : w.os = w0.os
  tape : w.tape = w0.tape
  output : w.output = w0.output

variable {w0 w : World} {own : List Nat} {h : List (AO DC)}
theorem WR.drew (H : WR w0 own ρ h w) : WR w0 own ρ h w.drew := ⟨H.len, H.inj, H.lt, H.new, H.obj, H.frame, H.size, H.os, H.tape, H.output⟩

theorem WR.block (H : WR w0 own ρ h w) {b : Nat} {o : AO DC} (hb : h[b]? = some o) : ∃ r, ρ[b]? = some r ∧ r < w.heap.size ∧ ORel ρ o w.heap[r]? := by
  have hl : b < ρ.length := by rw [H.len]; exact (List.getElem?_eq_some_iff.1 hb).1
  have hr : ρ[b]? = some ρ[b] := List.getElem?_eq_getElem hl
  exact ⟨_, hr, H.lt _ _ hr, H.obj _ _ _ hb hr⟩

theorem WR.alloc (H : WR w0 own ρ h w) {t : TypeId} {cs : List (AV DC)} {vs : Array Value} (hv : VRels ρ cs vs.toList) :
    WR w0 own (ρ ++ [w.heap.size]) (h ++ [.cells t cs]) (w.alloc (.cells vs t (0, 0))) := by
  have hx := Ext.push ρ [w.heap.size]
  have old : ∀ {i r}, (ρ ++ [w.heap.size])[i]? = some r → (i < ρ.length ∧ ρ[i]? = some r) ∨ (i = ρ.length ∧ r = w.heap.size) := fun {i r} hi => by
    rw [List.getElem?_append] at hi
    split at hi
    · rename_i hl; exact .inl ⟨hl, hi⟩
    · rename_i hl
      have hl' : i - ρ.length = 0 := by
        have := (List.getElem?_eq_some_iff.1 hi).1
        simp at this
        omega
      rw [hl'] at hi
      simp at hi
      exact .inr ⟨by omega, hi.symm⟩
  refine ⟨by simp [H.len], ?_, ?_, ?_, ?_, ?_, ?_, H.os, H.tape, H.output⟩
  · intro i j r hi hj
    rcases old hi with ⟨_, h1⟩ | ⟨e1, h1⟩ <;> rcases old hj with ⟨_, h2⟩ | ⟨e2, h2⟩
    · exact H.inj i j r h1 h2
    · have := H.lt _ _ h1; omega
    · have := H.lt _ _ h2; omega
    · omega
  · intro i r hi
    rcases old hi with ⟨_, h1⟩ | ⟨_, h1⟩
    · have := H.lt _ _ h1; simp; omega
    · simp; omega
  · intro i r t' cs' ho hi
    rcases old hi with ⟨hl, h1⟩ | ⟨_, h1⟩
    · rw [List.getElem?_append_left (by rw [← H.len]; exact hl)] at ho
      exact H.new i r t' cs' ho h1
    · right; rw [h1]; exact H.size
  · intro i o r ho hi
    rcases old hi with ⟨hl, h1⟩ | ⟨e, h1⟩
    · rw [List.getElem?_append_left (by rw [← H.len]; exact hl)] at ho
      have hne : r < w.heap.size := H.lt _ _ h1
      rw [Below.heap_alloc w _ r hne]
      exact (H.obj i o r ho h1).mono hx
    · subst e h1
      rw [H.len, List.getElem?_append_right (Nat.le_refl _)] at ho
      simp at ho
      subst ho
      rw [heap_alloc_new]
      exact ⟨vs, rfl, hv.mono hx⟩
  · intro b hb hn
    rw [Below.heap_alloc w _ b (Nat.lt_of_lt_of_le hb H.size)]
    exact H.frame b hb hn
  · have := H.size; simp; omega

theorem setObj_length : ∀ (h : List (AO DC)) (b i : Nat) (v : AV DC), (setObj h b i v).length = h.length
  | [], _, _, _ => rfl
  | .gone :: h, 0, _, _ => rfl
  | .cells _ _ :: h, 0, _, _ => rfl
  | .rows _ _ _ :: h, 0, _, _ => rfl
  | o :: h, b + 1, i, v => by cases o <;> simp [setObj, setObj_length h b i v]

theorem setObj_other : ∀ (h : List (AO DC)) (b i : Nat) (v : AV DC) (c : Nat), c ≠ b → (setObj h b i v)[c]? = h[c]?
  | [], _, _, _, _, _ => rfl
  | o :: h, 0, i, v, c, hc => by
    obtain ⟨c, rfl⟩ : ∃ m, c = m + 1 := ⟨c - 1, by omega⟩
    cases o <;> simp [setObj]
  | o :: h, b + 1, i, v, 0, _ => by cases o <;> simp [setObj]
  | o :: h, b + 1, i, v, c + 1, hc => by cases o <;> simp [setObj, setObj_other h b i v c (by omega)]

theorem setObj_same : ∀ (h : List (AO DC)) (b i : Nat) (v : AV DC), (setObj h b i v)[b]? = (h[b]?).map fun
    | .cells t cs => .cells t (cs.set i v)
    | o => o
  | [], _, _, _ => by simp [setObj]
  | o :: h, 0, i, v => by cases o <;> simp [setObj]
  | o :: h, b + 1, i, v => by cases o <;> simp [setObj, setObj_same h b i v]

theorem WR.setCell (H : WR w0 own ρ h w) {b i r : Nat} {t : TypeId} {cs : List (AV DC)} (hb : h[b]? = some (.cells t cs)) (hr : ρ[b]? = some r) {v : AV DC} {u : Value} (hv : VRel ρ v u) :
    WR w0 own ρ (setObj h b i v) (w.setCell ⟨r, i, none⟩ u) := by
  obtain ⟨vs, hvs, hrel⟩ := H.obj _ _ _ hb hr
  refine ⟨by rw [setObj_length, H.len], H.inj, fun i r h' => by simpa using H.lt i r h', ?_, ?_, ?_, by simpa using H.size, H.os, H.tape, H.output⟩
  · intro j r' t' cs' ho hr'
    by_cases hj : j = b
    · subst hj
      exact H.new _ _ _ _ hb hr'
    · rw [setObj_other h b i v j hj] at ho
      exact H.new _ _ _ _ ho hr'
  · intro j o r' ho hr'
    by_cases hj : j = b
    · subst hj
      rw [hr] at hr'
      cases hr'
      rw [setObj_same, hb] at ho
      simp at ho
      subst ho
      rw [heap_setCell_same w r i vs t u hvs]
      exact ⟨_, rfl, by simpa using hrel.set hv⟩
    · rw [setObj_other h b i v j hj] at ho
      have hne : r' ≠ r := fun e => hj (H.inj _ _ _ (e ▸ hr') hr)
      rw [heap_setCell_other w _ r' u hne]
      exact H.obj j o r' ho hr'
  · intro c hc hn
    have hne : c ≠ r := fun e => by
      rcases H.new _ _ _ _ hb hr with h1 | h1
      · exact hn (e ▸ h1)
      · omega
    rw [heap_setCell_other w _ c u hne]
    exact H.frame c hc hn

/-- Fewer blocks are known. -/
theorem WR.less (H : WR w0 own ρ h w) {ρ' : List Nat} {h' : List (AO DC)} (hx : Ext ρ' ρ) (hl : ρ'.length = h'.length)
    (hn : ∀ (i r : Nat) t cs, h'[i]? = some (.cells t cs) → ρ'[i]? = some r → r ∈ own ∨ w0.heap.size ≤ r)
    (ho : ∀ (i : Nat) o (r : Nat), h'[i]? = some o → ρ'[i]? = some r → ORel ρ' o w.heap[r]?) : WR w0 own ρ' h' w :=
  ⟨hl, fun i j r hi hj => H.inj i j r (hx _ _ hi) (hx _ _ hj), fun i r hi => H.lt i r (hx _ _ hi), hn, ho, H.frame, H.size, H.os, H.tape, H.output⟩
end
end Go.Proofs.Ytgljicadcegilaa.Ev
