/- A place of an array that is told by a symbolic number: loads choose among its elements, stores turn the one. Conditions: none. -/
import Derived.Test.YtngcbpcfgolifaaEvFrame
namespace Go.Proofs.Ytngcbpcfgolifaa.Ev
open Go.RowKit
set_option linter.unusedVariables false
set_option linter.unusedSimpArgs false

section
variable {D : Dom}
/-- Part k, k + 1, .. (n of them): the one that x tells. -/
def selUp (n0 : Nat) (x : D.N) (g : Nat → List (AV D)) : Nat → Nat → Option (List (AV D))
  | 0, _ => none
  | 1, k => some (g k)
  | n + 2, k => match selUp n0 x g (n + 1) (k + 1) with
    | some r => mergeL n0 (D.eqN x (D.nlit k)) (g k) r
    | none => none
/-- How many parts of sz cells, w apart, from c on. -/
def partsOf (len w c sz : Nat) : Nat := bif Nat.beq w 0 || Nat.blt len (c + sz) then 0 else (len - (c + sz)) / w + 1
def partAt (cs : List (AV D)) (w c sz k : Nat) : List (AV D) := (cs.drop (k * w + c)).take sz

/-- Cells that hold the same kind of thing. -/
def likeV : AV D → AV D → Bool
  | .int k _, .int k' _ => decide (k = k')
  | .int _ _, .bool _ => false
  | .bool _, .int _ _ => false
  | _, _ => true
def likeL : List (AV D) → List (AV D) → Bool
  | x :: xs, y :: ys => likeV x y && likeL xs ys
  | _, _ => true
/-- How many parts there are, of n, from the k-th on, that are like the first one. -/
def likeN (g : Nat → List (AV D)) (p : List (AV D)) : Nat → Nat → Nat
  | 0, _ => 0
  | n + 1, k => bif likeL p (g k) then likeN g p n (k + 1) + 1 else 0
theorem likeN_le {g : Nat → List (AV D)} {p : List (AV D)} : ∀ (n k : Nat), likeN g p n k ≤ n
  | 0, _ => Nat.le_refl _
  | n + 1, k => by
    unfold likeN
    cases likeL p (g k)
    · exact Nat.zero_le _
    · exact Nat.succ_le_succ (likeN_le n (k + 1))
def partsIn (cs : List (AV D)) (w c sz : Nat) : Nat := likeN (partAt cs w c sz) (partAt cs w c sz 0) (partsOf cs.length w c sz) 0
theorem partsIn_lt {cs : List (AV D)} {w c sz k : Nat} (h : k < partsIn cs w c sz) : k < partsOf cs.length w c sz := Nat.lt_of_lt_of_le h (likeN_le _ _)

def selLoad (P : Program) (h : List (AO D)) (t : TypeId) (b : Nat) (x : D.N) (w c : Nat) : Option (T D (AV D × List (W D))) :=
  match h[b]?, isAggT P t, sizeT P t with
  | some (.cells _ cs), some g, some sz0 =>
    let sz := bif g then sz0 else 1
    let n := partsIn cs w c sz
    (match selUp h.length x (partAt cs w c sz) n 0 with
    | some r => (match g, r with
      | true, r => some (.br (D.ltN x (D.nlit n)) (.ret (.agg r, [])) .fail)
      | false, [v] => some (.br (D.ltN x (D.nlit n)) (.ret (v, [])) .fail)
      | _, _ => none)
    | none => none)
  | _, _, _ => none

/-- Cells of n parts from the k-th on, the x-th one turned. -/
def selSet (n0 : Nat) (x : D.N) (w : Nat) (l : List (AV D)) : Nat → Nat → List (AV D) → Option (List (AV D))
  | 0, _, cs => some cs
  | n + 1, k, cs => match mergeL n0 (D.eqN x (D.nlit k)) l (cs.take l.length), selSet n0 x w l n (k + 1) (cs.drop w) with
    | some r, some q => some (r ++ (cs.take w).drop l.length ++ q)
    | _, _ => none

def selStore (P : Program) (h : List (AO D)) (t : TypeId) (b : Nat) (x : D.N) (w c : Nat) (v : AV D) : Option (T D (AV D × List (W D))) :=
  match h[b]?, sizeT P t with
  | some (.cells _ cs), some sz =>
    let l := v.cellsA
    if Nat.beq l.length sz && (Nat.ble sz w && (Nat.ble 1 sz && l.all (·.one))) then
      let n := partsIn cs w c sz
      (match selSet h.length x w l n 0 ((cs.drop c).take ((n - 1) * w + sz)) with
      | some r => if Nat.beq r.length ((n - 1) * w + sz) then some (.br (D.ltN x (D.nlit n)) (.ret (.undef, cellWrites b c r)) .fail) else none
      | none => none)
    else none
  | _, _ => none

def selIndex (P : Program) (n0 : Nat) (t : TypeId) (cs : List (AV D)) (y : D.I) : Option (T D (AV D × List (W D))) :=
  match P.underlying t with
  | some (.array len e) => (match isAggT P e, sizeT P e with
    | some g, some sz => (match selUp n0 (D.toN y) (partAt cs sz 0 sz) len 0 with
      | some r => (match g, r with
        | true, r => some (.br (D.inb y (D.nlit len)) (.ret (.agg r, [])) .fail)
        | false, [v] => bif Nat.beq sz 1 then some (.br (D.inb y (D.nlit len)) (.ret (v, [])) .fail) else none
        | _, _ => none)
      | none => none)
    | _, _ => none)
  | _ => none

def selAddr (P : Program) (h : List (AO D)) (t : TypeId) (x : AV D) (i : D.I) : Option (T D (AV D × List (W D))) :=
  match P.underlying t, x with
  | some (.array len e), .ptr b (.lit m) => (match isCells h b, sizeT P e with
    | true, some sz => some (.br (D.inb i (D.nlit len)) (.ret (.ptr b (.rc (D.toN i) sz m), [])) .fail)
    | _, _ => none)
  | some (.slice e), .slice b (.lit m) (.lit len) _ => (match isCells h b, sizeT P e with
    | true, some sz => some (.br (D.inb i (D.nlit len)) (.ret (.ptr b (.rc (D.toN i) sz m), [])) .fail)
    | _, _ => none)
  | _, _ => none

/-- The operations that are done so. -/
def selX (P : Program) (o : Oper) (s : St D) : Option (T D (AV D × List (W D))) :=
  match o.op with
  | .indexAddr t x i => (match evalA s.slots i with
    | .int _ (.sym y) => selAddr P s.heap t (evalA s.slots x) y
    | _ => none)
  | .index t x i => (match evalA s.slots x, evalA s.slots i with
    | .agg cs, .int _ (.sym y) => selIndex P s.heap.length t cs y
    | _, _ => none)
  | .load t x => (match evalA s.slots x with
    | .ptr b (.rc x w c) => if isCells s.heap b then selLoad P s.heap t b x w c else none
    | _ => none)
  | .store t a x => (match evalA s.slots a with
    | .ptr b (.rc y w c) => if isCells s.heap b then selStore P s.heap t b y w c (evalA s.slots x) else none
    | _ => none)
  | _ => none
end

section
variable {P : Program} {ρ : List Rb} {w0 w : World} {own : List Nat} {s : St DC} {a : Act}

theorem selUp_rel {n0 x : Nat} {g : Nat → List (AV DC)} {l : List Value} : ∀ (n k : Nat) (r : List (AV DC)), (selUp (D := DC) n0 x g n k) = some r → k ≤ x → x < k + n → VRels ρ (g x) l → VRels ρ r l
  | 0, _, _, h, _, _, _ => by cases h
  | 1, k, r, h, h1, h2, hv => by
    simp only [selUp, Option.some.injEq] at h
    subst h
    rwa [show k = x by omega]
  | n + 2, k, r, h, h1, h2, hv => by
    simp only [selUp] at h
    split at h
    · rename_i q hq
      by_cases hk : x = k
      · subst hk
        refine mergeL_rel h ?_
        rw [show decide (x = x) = true from decide_eq_true rfl]
        exact hv
      · refine mergeL_rel h ?_
        rw [show decide (x = k) = false from decide_eq_false hk]
        exact selUp_rel (n + 1) (k + 1) q hq (by omega) (by omega) hv
    · cases h

theorem partsOf_le {len w c sz k : Nat} (h : k < partsOf len w c sz) : k * w + c + sz ≤ len ∧ 0 < w := by
  unfold partsOf at h
  cases hb : (Nat.beq w 0 || Nat.blt len (c + sz)) <;> rw [hb] at h
  · simp only [Bool.or_eq_false_iff] at hb
    simp only [cond_false] at h
    have hw : 0 < w := by
      rcases Nat.eq_zero_or_pos w with e | e
      · subst e; simp at hb
      · exact e
    have hle : c + sz ≤ len := by
      rcases Nat.lt_or_ge len (c + sz) with h | h
      · have := hb.2
        have e : Nat.blt len (c + sz) = true := by simpa [Nat.blt_eq] using h
        rw [e] at this
        cases this
      · exact h
    have h1 : k ≤ (len - (c + sz)) / w := by omega
    have h2 := Nat.mul_le_mul_right w h1
    have h3 := Nat.div_mul_le_self (len - (c + sz)) w
    refine ⟨?_, hw⟩
    omega
  · simp only [cond_true] at h
    omega

theorem selLoad_sound {t : TypeId} {b : Nat} {x w' c : Nat} {q : T DC (AV DC × List (W DC))} {z : AV DC × List (W DC)} (H : WR w0 own ρ s.heap w) (hq : selLoad (D := DC) P s.heap t b x w' c = some q) (h : q.pick = some z) {r : Rb} (hr : ρ[b]? = some r) :
    z.2 = [] ∧ ∃ v, (loadVar t (r.ad (x * w' + c))).run P w = .ok v w ∧ VRel ρ z.1 v := by
  unfold selLoad at hq
  split at hq
  · rename_i t0 cs g sz0 hb hg hs
    simp only [] at hq
    split at hq
    · rename_i rr hsel
      have key : ∀ n, x < n → n = partsIn cs w' c (bif g then sz0 else 1) → ∃ vs : Array Value, (loadCells (r.ad (x * w' + c)) (bif g then sz0 else 1)).run P w = .ok vs w ∧ VRels ρ rr vs.toList := by
        intro n hx hn
        obtain ⟨h1, _⟩ := partsOf_le (k := x) (partsIn_lt (by rw [← hn]; exact hx))
        obtain ⟨vs, h2, h3⟩ := run_loadCells_rel (P := P) H hb hr h1
        exact ⟨vs, h2, selUp_rel _ 0 rr hsel (Nat.zero_le _) (by rw [Nat.zero_add, ← hn]; exact hx) h3⟩
      cases g with
      | true =>
        simp only [Option.some.injEq] at hq
        subst hq
        rcases T.br_some h with ⟨h1, h2⟩ | ⟨_, h2⟩
        · have := T.ret_some h2
          subst this
          obtain ⟨vs, k1, k2⟩ := key _ (of_decide_eq_true h1) rfl
          refine ⟨rfl, .agg vs, ?_, vs, rfl, k2⟩
          simp only [cond_true] at k1
          simp only [loadVar, Sem.run_bind, run_isAggT hg, Result.andThen_ok, if_true, run_sizeT hs, k1]
          rfl
        · cases h2
      | false =>
        split at hq
        · cases ‹false = true›
        · rename_i v _
          simp only [Option.some.injEq] at hq
          subst hq
          rcases T.br_some h with ⟨h1, h2⟩ | ⟨_, h2⟩
          · have := T.ret_some h2
            subst this
            obtain ⟨vs, k1, u, us, e, k2, k3⟩ := key _ (of_decide_eq_true h1) rfl
            have k3' : us = [] := k3
            subst k3'
            refine ⟨rfl, u, ?_, k2⟩
            simp only [loadVar, Sem.run_bind, run_isAggT hg, Result.andThen_ok, Bool.false_eq_true, if_false]
            obtain ⟨h1', _⟩ := partsOf_le (k := x) (partsIn_lt (of_decide_eq_true h1))
            obtain ⟨vs0, hvs0, hsz, hrel⟩ := H.obj _ _ _ hb hr
            simp only [cond_false] at k1 h1'
            have hlen : x * w' + c < cs.length := by omega
            obtain ⟨v1, hv1, hv2⟩ := cell_of_rel H hb hr (List.getElem?_eq_getElem hlen)
            have hl := run_loadCells_list (P := P) (w := w) (r.ad (x * w' + c)) [v1] (fun j u' hj => by
              cases j with
              | zero => simp at hj; subst hj; simpa [Addr.add] using hv1
              | succ j => simp at hj)
            have e1 : ([v1] : List Value).length = 1 := rfl
            rw [e1, k1] at hl
            simp only [Result.ok.injEq] at hl
            rw [hl.1] at e
            simp at e
            subst e
            exact run_load_cell hv1 _
          · cases h2
        · cases hq
    · cases hq
  · cases hq

/-- Cells laid over others. -/
theorem layA_get : ∀ (l : List (AV DC)) (cs : List (AV DC)) (i : Nat), i + l.length ≤ cs.length → (layA cs i l).length = cs.length ∧ ∀ p : Nat, (layA cs i l)[p]? = if i ≤ p ∧ p < i + l.length then l[p - i]? else cs[p]?
  | [], cs, i, _ => ⟨rfl, fun p => by rw [if_neg (by intro hc; simp at hc; omega)]; rfl⟩
  | v :: l, cs, i, h => by
    simp only [List.length_cons] at h
    obtain ⟨h1, h2⟩ := layA_get l (cs.set i v) (i + 1) (by simp; omega)
    refine ⟨by simpa [layA] using h1, fun p => ?_⟩
    simp only [layA, h2 p]
    by_cases c1 : i + 1 ≤ p ∧ p < i + 1 + l.length
    · rw [if_pos c1, if_pos (by simp; omega), show p - i = (p - (i + 1)) + 1 by omega]
      simp
    · rw [if_neg c1, List.getElem?_set]
      by_cases c2 : i = p
      · subst c2
        rw [if_pos rfl, if_pos (by omega), if_pos (by simp)]
        simp
      · rw [if_neg c2, if_neg (by simp; omega)]

theorem apps_cellWrites {b : Nat} {t : TypeId} : ∀ (l : List (AV DC)) (i : Nat) (s : St DC) (cs : List (AV DC)), s.heap[b]? = some (.cells t cs) →
    (s.apps (cellWrites b i l)).heap[b]? = some (.cells t (layA cs i l)) ∧ (∀ c, c ≠ b → (s.apps (cellWrites b i l)).heap[c]? = s.heap[c]?) ∧ (s.apps (cellWrites b i l)).heap.length = s.heap.length
  | [], i, s, cs, h => ⟨h, fun _ _ => rfl, rfl⟩
  | v :: l, i, s, cs, h => by
    have h' : (s.app (.cell b i v)).heap[b]? = some (.cells t (cs.set i v)) := by simp only [St.app]; rw [setObj_same, h]; rfl
    obtain ⟨h1, h2, h3⟩ := apps_cellWrites l (i + 1) (s.app (.cell b i v)) (cs.set i v) h'
    refine ⟨h1, fun c hc => ?_, ?_⟩
    · rw [cellWrites, St.apps, h2 c hc]
      simp only [St.app]
      exact setObj_other _ _ _ _ _ hc
    · rw [cellWrites, St.apps, h3]
      simp [St.app, setObj_length]

theorem mergeL_len {n0 : Nat} {x : Bool} : ∀ {p q m : List (AV DC)}, mergeL (D := DC) n0 x p q = some m → m.length = p.length ∧ m.length = q.length
  | [], [], m, h => by simp only [mergeL, Option.some.injEq] at h; subst h; exact ⟨rfl, rfl⟩
  | a :: p, b :: q, m, h => by
    simp only [mergeL] at h
    cases h1 : merge1 (D := DC) n0 x a b with
    | none => rw [h1] at h; cases h
    | some c =>
      rw [h1] at h
      cases h2 : mergeL (D := DC) n0 x p q with
      | none => rw [h2] at h; cases h
      | some r =>
        rw [h2] at h
        simp only [Option.some.injEq] at h
        subst h
        obtain ⟨e1, e2⟩ := mergeL_len h2
        exact ⟨by simp [e1], by simp [e2]⟩
  | [], _ :: _, _, h => by cases h
  | _ :: _, [], _, h => by cases h

/-- What stands there behind the store: the x-th part is the new one, all else as it was. -/
theorem selSet_rel {n0 x w' : Nat} {l : List (AV DC)} (hw : l.length ≤ w') : ∀ (n k : Nat) (cs r : List (AV DC)) (vs us : List Value), selSet (D := DC) n0 x w' l n k cs = some r → (1 ≤ n → (n - 1) * w' + l.length ≤ cs.length) → VRels ρ cs vs → VRels ρ l us →
    VRels ρ r (if k ≤ x ∧ x < k + n then vs.take ((x - k) * w') ++ us ++ vs.drop ((x - k) * w' + l.length) else vs)
  | 0, k, cs, r, vs, us, h, hl, hv, hu => by
    simp only [selSet, Option.some.injEq] at h
    subst h
    rw [if_neg (by omega)]
    exact hv
  | n + 1, k, cs, r, vs, us, h, hl, hv, hu => by
    simp only [selSet] at h
    split at h
    · rename_i r1 q h1 h2
      simp only [Option.some.injEq] at h
      subst h
      have hl' := hl (by omega)
      have hlen := hv.length
      have hulen := hu.length
      have hle : l.length ≤ cs.length := by omega
      have ih := selSet_rel hw n (k + 1) (cs.drop w') q (vs.drop w') us h2 (fun hn => by
        obtain ⟨m, rfl⟩ : ∃ m, n = m + 1 := ⟨n - 1, by omega⟩
        simp only [List.length_drop, Nat.add_sub_cancel] at hl' ⊢
        rw [Nat.add_mul] at hl'
        omega) (hv.drop w') hu
      have hmid : VRels ρ ((cs.take w').drop l.length) ((vs.take w').drop l.length) := (hv.take w').drop _
      by_cases hx : x = k
      · subst hx
        rw [if_pos (by omega)]
        have hr1 : VRels ρ r1 us := mergeL_rel h1 (by rw [show decide (x = x) = true from decide_eq_true rfl]; exact hu)
        rw [if_neg (by omega)] at ih
        have := (hr1.append hmid).append ih
        have e : us ++ (vs.take w').drop l.length ++ vs.drop w' = vs.take ((x - x) * w') ++ us ++ vs.drop ((x - x) * w' + l.length) := by
          simp only [Nat.sub_self, Nat.zero_mul, List.take_zero, List.nil_append, Nat.zero_add, List.append_assoc]
          congr 1
          rw [List.drop_take]
          rw [← List.take_append_drop (w' - l.length) (vs.drop l.length)]
          congr 1
          · rw [List.take_append_drop]
          · rw [List.drop_drop]
            congr 1
            omega
        rw [← e]
        exact this
      · have hr1 : VRels ρ r1 (vs.take l.length) := mergeL_rel h1 (by rw [show decide (x = k) = false from decide_eq_false hx]; exact hv.take _)
        have := (hr1.append hmid).append ih
        have e0 : vs.take l.length ++ (vs.take w').drop l.length = vs.take w' := by
          rw [List.drop_take]
          have : (vs.take w').take l.length = vs.take l.length := by rw [List.take_take, Nat.min_eq_left hw]
          rw [← this, ← List.drop_take, List.take_append_drop]
        rw [e0] at this
        by_cases hin : k ≤ x ∧ x < k + (n + 1)
        · rw [if_pos hin]
          rw [if_pos (by omega)] at this
          have hm : (x - k) * w' = (x - (k + 1)) * w' + w' := by
            obtain ⟨d, hd⟩ : ∃ d, x = k + 1 + d := ⟨x - (k + 1), by omega⟩
            subst hd
            rw [show k + 1 + d - k = d + 1 by omega, show k + 1 + d - (k + 1) = d by omega, Nat.add_mul]
            omega
          have e : vs.take w' ++ ((vs.drop w').take ((x - (k + 1)) * w') ++ us ++ (vs.drop w').drop ((x - (k + 1)) * w' + l.length)) = vs.take ((x - k) * w') ++ us ++ vs.drop ((x - k) * w' + l.length) := by
            rw [hm, List.drop_drop, ← List.append_assoc, ← List.append_assoc]
            have e1 : vs.take w' ++ (vs.drop w').take ((x - (k + 1)) * w') = vs.take ((x - (k + 1)) * w' + w') := by
              rw [show (x - (k + 1)) * w' + w' = w' + (x - (k + 1)) * w' by omega, List.take_add]
            rw [e1]
            congr 2
            omega
          rw [← e]
          exact this
        · rw [if_neg hin]
          rw [if_neg (by omega), List.take_append_drop] at this
          exact this
    · cases h

theorem selStore_sound {t : TypeId} {b : Nat} {x w' c : Nat} {v : AV DC} {u : Value} {q : T DC (AV DC × List (W DC))} {z : AV DC × List (W DC)} (H : WR w0 own ρ s.heap w) (hq : selStore (D := DC) P s.heap t b x w' c v = some q) (h : q.pick = some z) {r : Rb} (hr : ρ[b]? = some r) (hv : VRel ρ v u) :
    z.1 = .undef ∧ (∃ l, l ≠ [] ∧ z.2 = cellWrites b c l) ∧ ∃ w1, (storeVar t (r.ad (x * w' + c)) u).run P w = .ok () w1 ∧ WR w0 own ρ (s.apps z.2).heap w1 := by
  unfold selStore at hq
  split at hq
  · rename_i t0 cs sz hb hs
    simp only [] at hq
    split at hq
    · rename_i hc
      simp only [Bool.and_eq_true] at hc
      have hlen := Nat.eq_of_beq_eq_true hc.1
      have hszw := Nat.le_of_ble_eq_true hc.2.1
      have hsz1 := Nat.le_of_ble_eq_true hc.2.2.1
      have hone := hc.2.2.2
      split at hq
      · rename_i rr hsel
        split at hq
        · rename_i hrl
          have hrl := Nat.eq_of_beq_eq_true hrl
          simp only [Option.some.injEq] at hq
          subst hq
          rcases T.br_some h with ⟨h1, h2⟩ | ⟨_, h2⟩
          · have := T.ret_some h2
            subst this
            have hx : x < partsIn cs w' c sz := of_decide_eq_true h1
            obtain ⟨hle, hw0⟩ := partsOf_le (partsIn_lt hx)
            obtain ⟨hlast, _⟩ := partsOf_le (k := partsIn cs w' c sz - 1) (len := cs.length) (w := w') (c := c) (sz := sz) (partsIn_lt (by omega))
            generalize hN : partsIn cs w' c sz = N at *
            have hd : v ≠ .dead := by
              rintro rfl
              simp [AV.cellsA, AV.one] at hone
            have hcs := cells_rel hv hd
            have hul : u.cells.size = sz := by have := hcs.length; simp at this; omega
            obtain ⟨us, hus, hsz, hrel⟩ := H.obj _ _ _ hb hr
            have hcle : cs.length ≤ us.size := by simpa using hrel.le
            have honeV : ∀ y ∈ u.cells.toList, y.oneCell' = true := by
              have : ∀ (l : List (AV DC)) (vs : List Value), l.all (·.one) = true → VRels ρ l vs → ∀ y ∈ vs, y.oneCell' = true := by
                intro l
                induction l with
                | nil => intro vs _ hv y hy; rw [show vs = [] from hv] at hy; cases hy
                | cons a l ih =>
                  intro vs ha hv y hy
                  obtain ⟨v0, vs', rfl, k1, k2⟩ := hv
                  simp only [List.all_cons, Bool.and_eq_true] at ha
                  rcases List.mem_cons.1 hy with rfl | hy
                  · exact oneCell_of k1 ha.1
                  · exact ih vs' ha.2 k2 y hy
              exact this _ _ hone hcs
            obtain ⟨w1, vs', k1, k2, k3, k4, k5, k6, k7, k8, k9⟩ := storeCells_row (P := P) (e := t0) (r := r.1) u.cells.toList 0 (x * w' + c) us w hus (by simp [hul]; omega) honeV
            refine ⟨rfl, ⟨rr, by rintro rfl; simp at hrl; omega, rfl⟩, w1, ?_, ?_⟩
            · simp only [storeVar, Sem.run_bind, run_sizeT hs, Result.andThen_ok, hul, ne_eq, not_true_eq_false, if_false]
              rw [Rb.ad_own hsz]
              simpa using k1
            · have hfit : c + rr.length ≤ cs.length := by rw [hrl]; omega
              obtain ⟨g1, g2, g3⟩ := apps_cellWrites rr c s cs hb
              obtain ⟨m1, m2⟩ := layA_get rr cs c hfit
              refine H.turn hb rfl hr g3 g1 g2 ?_ k5 k6 k7 k8 k9
              rw [k2]
              refine ⟨vs', rfl, by rw [k3]; exact hsz, .of_get ?_ fun p y hy => ?_⟩
              · simp [m1, k3]; omega
              · have hpl : p < cs.length := by rw [← m1]; exact (List.getElem?_eq_some_iff.1 hy).1
                rw [m1, List.getElem?_take, if_pos hpl, Array.getElem?_toList, k4 p]
                rw [m2 p] at hy
                have hreg : VRels ρ ((cs.drop c).take ((N - 1) * w' + sz)) ((us.toList.drop c).take ((N - 1) * w' + sz)) := by
                  have := (hrel.drop c).take ((N - 1) * w' + sz)
                  rwa [List.drop_take, List.take_take, Nat.min_eq_left (by omega)] at this
                have hset := selSet_rel (x := x) (by omega : v.cellsA.length ≤ w') N 0 _ rr _ u.cells.toList hsel (fun _ => by simp; omega) hreg hcs
                rw [if_pos (by omega), Nat.sub_zero] at hset
                have hulist : u.cells.toList.length = sz := by simpa using hul
                simp only [Nat.add_zero, hulist]
                by_cases hin : c ≤ p ∧ p < c + rr.length
                · rw [if_pos hin] at hy
                  obtain ⟨y', hy1, hy2⟩ := hset.get hy
                  refine ⟨y', ?_, hy2⟩
                  rw [hrl] at hin
                  rw [List.append_assoc, List.getElem?_append] at hy1
                  have htk : (((us.toList.drop c).take ((N - 1) * w' + sz)).take (x * w')).length = x * w' := by
                    simp
                    have : x ≤ N - 1 := by omega
                    have := Nat.mul_le_mul_right w' this
                    omega
                  rw [htk] at hy1
                  by_cases q1 : p - c < x * w'
                  · rw [if_pos q1, List.getElem?_take, if_pos q1, List.getElem?_take, if_pos (by omega), List.getElem?_drop] at hy1
                    rw [if_neg (by omega)]
                    rw [← hy1, Array.getElem?_toList]
                    congr 1
                    omega
                  · rw [if_neg q1, List.getElem?_append] at hy1
                    rw [hulist] at hy1
                    by_cases q2 : p - c - x * w' < sz
                    · rw [if_pos q2] at hy1
                      rw [if_pos (by omega), ← hy1]
                      congr 1
                      omega
                    · rw [if_neg q2, List.getElem?_drop, List.getElem?_take, if_pos (by omega), List.getElem?_drop] at hy1
                      rw [if_neg (by omega), ← hy1, Array.getElem?_toList]
                      congr 1
                      omega
                · rw [if_neg hin] at hy
                  rw [hrl] at hin
                  have hxN : x * w' ≤ (N - 1) * w' := Nat.mul_le_mul_right w' (by omega)
                  rw [if_neg (by omega)]
                  obtain ⟨y', hy1, hy2⟩ := hrel.get hy
                  rw [List.getElem?_take, if_pos hpl, Array.getElem?_toList] at hy1
                  exact ⟨y', hy1, hy2⟩
          · cases h2
        · cases hq
      · cases hq
    · cases hq
  · cases hq

theorem selIndex_sound {n0 : Nat} {t : TypeId} {cs : List (AV DC)} {k : IntKind} {y : Int} {vs : Array Value} {q : T DC (AV DC × List (W DC))} {z : AV DC × List (W DC)} (hq : selIndex (D := DC) P n0 t cs y = some q) (h : q.pick = some z) (hv : VRels ρ cs vs.toList) :
    z.2 = [] ∧ ∃ r, (Instr.index t (.agg vs) (.int k y)).run P w = .ok r w ∧ VRel ρ z.1 r := by
  unfold selIndex at hq
  split at hq
  · rename_i len e hu
    split at hq
    · rename_i g sz hg hs
      split at hq
      · rename_i rr hsel
        have key : ∀ j : Nat, y = j → j < len → VRels ρ rr ((vs.toList.drop (j * sz)).take sz) := by
          intro j hj hlt
          refine selUp_rel (n0 := n0) (x := j) (g := partAt cs sz 0 sz) len 0 rr ?_ (Nat.zero_le _) (by omega) ?_
          · rw [← hsel]; subst hj; rfl
          · have := (hv.drop (j * sz)).take sz
            simpa [partAt] using this
        cases g with
        | true =>
          simp only [Option.some.injEq] at hq
          subst hq
          rcases T.br_some h with ⟨h1, h2⟩ | ⟨_, h2⟩
          · have := T.ret_some h2
            subst this
            have h1' : 0 ≤ y ∧ y < (len : Int) := of_decide_eq_true h1
            obtain ⟨j, rfl⟩ := Int.eq_ofNat_of_zero_le h1'.1
            have hj : j < len := by have := h1'.2; omega
            have hin : (Instr.index t (.agg vs) (.int k j)).run P w = (part e vs (j * sz)).run P w := by
              simp [Instr.index, asIntOf, run_underlying hu, hj, run_sizeT hs]
            have hp := run_part (P := P) hg hs vs.toList (j * sz) (fun e => by cases e) w
            simp only [Array.toArray_toList, valOf, cond_true] at hp
            exact ⟨rfl, _, hin.trans hp, _, rfl, by simpa using key j rfl hj⟩
          · cases h2
        | false =>
          split at hq
          · cases ‹false = true›
          · rename_i v _
            cases hsz : Nat.beq sz 1 <;> rw [hsz] at hq
            · cases hq
            · have hsz1 := Nat.eq_of_beq_eq_true hsz
              subst hsz1
              simp only [cond_true, Option.some.injEq] at hq
              subst hq
              rcases T.br_some h with ⟨h1, h2⟩ | ⟨_, h2⟩
              · have := T.ret_some h2
                subst this
                have h1' : 0 ≤ y ∧ y < (len : Int) := of_decide_eq_true h1
                obtain ⟨j, rfl⟩ := Int.eq_ofNat_of_zero_le h1'.1
                have hj : j < len := by have := h1'.2; omega
                have hin : (Instr.index t (.agg vs) (.int k j)).run P w = (part e vs (j * 1)).run P w := by
                  simp [Instr.index, asIntOf, run_underlying hu, hj, run_sizeT hs]
                obtain ⟨u, us, e1, k2, k3⟩ := key j rfl hj
                have hne : (vs.toList.drop (j * 1)).take 1 ≠ [] := by rw [e1]; simp
                have hp := run_part (P := P) hg hs vs.toList (j * 1) (fun _ => hne) w
                simp only [Array.toArray_toList, valOf, cond_false, e1, List.headD_cons] at hp
                exact ⟨rfl, u, hin.trans hp, k2⟩
              · cases h2
          · cases hq
      · cases hq
    · cases hq
  · cases hq

theorem selAddr_sound {h : List (AO DC)} {t : TypeId} {x : AV DC} {k : IntKind} {y : Int} {u : Value} {q : T DC (AV DC × List (W DC))} {z : AV DC × List (W DC)} (hq : selAddr (D := DC) P h t x y = some q) (hz : q.pick = some z) (hx : VRel ρ x u) :
    z.2 = [] ∧ ∃ r, (Instr.indexAt t u (.int k y)).run P w = .ok r w ∧ VRel ρ z.1 r := by
  unfold selAddr at hq
  split at hq
  · rename_i len e b m hu
    split at hq
    · rename_i sz hc hs
      simp only [Option.some.injEq] at hq
      subst hq
      rcases T.br_some hz with ⟨h1, h2⟩ | ⟨_, h2⟩
      · have := T.ret_some h2
        subst this
        have h1' : 0 ≤ y ∧ y < (len : Int) := of_decide_eq_true h1
        obtain ⟨r, hr, rfl⟩ := hx
        refine ⟨rfl, _, indexAt_arr hu hs r _ _ _ h1'.1 h1'.2 w, r, hr, ?_⟩
        simp only [AN.den, nN]
        rw [show m + y.toNat * sz = y.toNat * sz + m by omega]
      · cases h2
    · cases hq
  · rename_i e b m len cap hu
    split at hq
    · rename_i sz hc hs
      simp only [Option.some.injEq] at hq
      subst hq
      rcases T.br_some hz with ⟨h1, h2⟩ | ⟨_, h2⟩
      · have := T.ret_some h2
        subst this
        have h1' : 0 ≤ y ∧ y < (len : Int) := of_decide_eq_true h1
        obtain ⟨r, hr, p, c, rfl, hcap⟩ := hx
        have hp := hcap.at (by simp only [AN.den]; omega)
        subst hp
        refine ⟨rfl, _, indexAt_slice hu hs r _ _ _ h1'.1 (by simp only [AN.den]; exact h1'.2) w, r, hr, ?_⟩
        simp only [AN.den, nN]
        rw [show m + y.toNat * sz = y.toNat * sz + m by omega]
      · cases h2
    · cases hq
  · cases hq

theorem selX_sound {o : Oper} {t : T DC (AV DC × List (W DC))} {z : AV DC × List (W DC)} (ho : selX P o s = some t) (h : t.pick = some z) (hS : RS ρ s.slots a) (H : WR w0 own ρ s.heap w) : Does P w0 own ρ s a w o z := by
  have hr := evalA_rel hS
  obtain ⟨dst, op, type, pos, after, guard⟩ := o
  cases op <;> first | (cases ho; done) | skip
  case indexAddr t x i =>
    simp only [selX] at ho
    have hi := hr i
    split at ho
    · rename_i k y he
      rw [he] at hi
      exact does_value H (sem := Instr.indexAt t (a.eval x) (a.eval i)) rfl (by rw [hi]; exact selAddr_sound ho h (hr x))
    · cases ho
  case index t x i =>
    simp only [selX] at ho
    have hi := hr i
    have hx := hr x
    split at ho
    · rename_i cs k y he1 he2
      rw [he2] at hi
      rw [he1] at hx
      obtain ⟨vs, hx, hv⟩ := hx
      exact does_value H (sem := Instr.index t (a.eval x) (a.eval i)) rfl (by rw [hi, hx]; exact selIndex_sound ho h hv)
    · cases ho
  case load t x =>
    simp only [selX] at ho
    have hx := hr x
    split at ho
    · rename_i b y w' c he
      rw [he] at hx
      obtain ⟨r, hr', hx⟩ := hx
      split at ho
      · have heq : execOp a.eval ⟨dst, .load t x, type, pos, after, guard⟩ = (do pure (.value (← loadVar t (r.ad (nN y * w' + c)))) : Sem Next) := by
          simp only [execOp, hx, Instr.loadAt, Instr.sureAddr, pure_bind]
          rfl
        exact does_value H heq (selLoad_sound H ho h hr')
      · cases ho
    · cases ho
  case store t x y =>
    simp only [selX] at ho
    have hx := hr x
    split at ho
    · rename_i b n w' c he
      rw [he] at hx
      obtain ⟨r, hr', hx⟩ := hx
      split at ho
      · have heq : execOp a.eval ⟨dst, .store t x y, type, pos, after, guard⟩ = (do storeVar t (r.ad (nN n * w' + c)) (a.eval y); pure .skip : Sem Next) := by
          simp only [execOp, hx, Instr.storeAt, Instr.sureAddr, pure_bind]
          rfl
        obtain ⟨h1, ⟨l, hl1, hl2⟩, w1, h3, h4⟩ := selStore_sound (P := P) H ho h hr' (hr y)
        refine ⟨Go.undef, w1, ρ, .inr ⟨by rw [heq]; simp [nN, h3], rfl⟩, Ext.refl _, by rw [h1]; rfl, h4, by rw [hl2]; exact apps_slots_cellWrites _ _ _ _, fun e => ?_⟩
        rw [hl2] at e
        cases l with
        | nil => exact absurd rfl hl1
        | cons v l => simp [cellWrites] at e
      · cases ho
    · cases ho

/-- A context with more operations. -/
def Cx.more (X : Cx DC) (g : Oper → St DC → Option (T DC (AV DC × List (W DC)))) : Cx DC :=
  { X with opx := fun o s => match g o s with
    | some t => some t
    | none => X.opx o s }
theorem Ok.more {X : Cx DC} (hX : Ok P X) {g : Oper → St DC → Option (T DC (AV DC × List (W DC)))}
    (hg : ∀ o s t z, g o s = some t → t.pick = some z → ∀ (w0 : World) (own : List Nat) (ρ : List Rb) (a : Act) (w : World), RS ρ s.slots a → WR w0 own ρ s.heap w → Does P w0 own ρ s a w o z) : Ok P (X.more g) := by
  refine ⟨hX.mixed, hX.names, hX.load, hX.store, hX.bodies, hX.sums, hX.blk, ?_⟩
  intro o s t z ho hz w0 own ρ a w hS H
  simp only [Cx.more] at ho
  cases hgo : g o s with
  | some t' =>
    rw [hgo] at ho
    cases ho
    exact hg o s t z hgo hz w0 own ρ a w hS H
  | none =>
    rw [hgo] at ho
    exact hX.opx o s t z ho hz w0 own ρ a w hS H
end
end Go.Proofs.Ytngcbpcfgolifaa.Ev
