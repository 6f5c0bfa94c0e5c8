/- Rows of numbers that are made with a length told by a term, and slices of slices. Conditions: none. -/
import Derived.Test.YtngcbpcfgolifaaEvMap
import Derived.Laws.MakeOwn
import Derived.Laws.Slices
namespace Go.Proofs.Ytngcbpcfgolifaa.Ev
open Go.RowKit
set_option linter.unusedVariables false
set_option linter.unusedSimpArgs false

section
variable {D : Dom} (P : Program)
/-- The kind of the numbers of a type, which are one cell and few bytes. -/
def numKind (e : TypeId) : Option IntKind := match P.info? e with
  | some i => match i.zero with
    | some (.int k 0) => if Nat.beq i.size 1 && Nat.ble i.bytes 256 then some k else none
    | _ => none
  | none => none
/-- 'make' of a slice of numbers, its capacity being its length. -/
def makeA (h : List (AO D)) (t : TypeId) (n : D.I) : Option (T D (AV D × List (W D))) := match P.underlying t with
  | some (.slice e) => match numKind P e with
    | some k => some (.br (D.inb n (D.nlit 16777216)) (.ret (.slice h.length (.lit 0) (.rc (D.toN n) 1 0) (.kn (.rc (D.toN n) 1 0)), [.new (.arr e (D.toN n) [(.int k, D.constF (D.num 0))])])) .fail)
    | none => none
  | _ => none
/-- A bound of a slice expression: what it is, and what is asked of it. -/
def boundA (x : Option (AV D)) (dflt y : D.N) : Option (D.B × D.N) := match x with
  | none => some (D.leN dflt y, dflt)
  | some (.int _ n) => some (D.inb n.val (D.nadd y (D.nlit 1)), D.toN n.val)
  | some _ => none
def moveA (off : AN D) (x : Option (AV D)) (sz : Nat) : Option (AN D) := match x with
  | none => some off
  | some (.int _ n) => off.adv n sz
  | some _ => none
def hiFor (hi mx : Option (AV D)) : Bool := match hi, mx with
  | none, some _ => false
  | _, _ => true
/-- A slice of a slice whose capacity is told; of the new one's nothing is told. -/
def sliceA (t : TypeId) (x : AV D) (lo hi mx : Option (AV D)) : Option (T D (AV D × List (W D))) := match P.underlying t, x with
  | some (.slice e), .slice b off len (.kn cap) => match sizeT P e, len.num, cap.num, hiFor hi mx with
    | some sz, some n, some c, true => match boundA mx c c with
      | some (qm, m) => match boundA hi n m with
        | some (qh, h) => match boundA lo (D.nlit 0) h, moveA off lo sz with
          | some (ql, l), some off' => some (.br (D.and qm (D.and qh ql)) (.ret (.slice b off' (.rc (D.nsub h l) 1 0) (.un 0), [])) .fail)
          | _, _ => none
        | none => none
      | none => none
    | _, _, _, _ => none
  | _, _ => none
/-- The same of a slice whose capacity is not told: within its length, which is in its capacity. -/
def sliceU (t : TypeId) (x : AV D) (lo hi mx : Option (AV D)) : Option (T D (AV D × List (W D))) := match P.underlying t, x with
  | some (.slice e), .slice b off len (.un _) => match sizeT P e, len.num, hiFor hi mx with
    | some sz, some n, true => match boundA mx n n with
      | some (qm, m) => match boundA hi n m with
        | some (qh, h) => match boundA lo (D.nlit 0) h, moveA off lo sz with
          | some (ql, l), some off' => some (.br (D.and qm (D.and qh ql)) (.ret (.slice b off' (.rc (D.nsub h l) 1 0) (.un 0), [])) .fail)
          | _, _ => none
        | none => none
      | none => none
    | _, _, _ => none
  | _, _ => none
/-- The same of a slice that may be nil. -/
def sliceN (t : TypeId) (x : AV D) (lo hi mx : Option (AV D)) : Option (T D (AV D × List (W D))) := match P.underlying t, x with
  | some (.slice e), .slice b off len .any => match sizeT P e, len.num, hiFor hi mx with
    | some sz, some n, true => match boundA mx n n with
      | some (qm, m) => match boundA hi n m with
        | some (qh, h) => match boundA lo (D.nlit 0) h, moveA off lo sz with
          | some (ql, l), some off' => some (.br (D.and qm (D.and qh ql)) (.ret (.slice b off' (.rc (D.nsub h l) 1 0) .any, [])) .fail)
          | _, _ => none
        | none => none
      | none => none
    | _, _, _ => none
  | _, _ => none
def memX (o : Oper) (s : St D) : Option (T D (AV D × List (W D))) := match o.op with
  | .makeSlice t (.tmp l) (.tmp c) => if Nat.beq l c then (match s.slots.getD l .dead with
    | .int _ n => makeA P s.heap t n.val
    | _ => none) else none
  | .slice t x lo hi mx => match sliceA P t (evalA s.slots x) (lo.map (evalA s.slots)) (hi.map (evalA s.slots)) (mx.map (evalA s.slots)) with
    | some q => some q
    | none => match sliceU P t (evalA s.slots x) (lo.map (evalA s.slots)) (hi.map (evalA s.slots)) (mx.map (evalA s.slots)) with
      | some q => some q
      | none => sliceN P t (evalA s.slots x) (lo.map (evalA s.slots)) (hi.map (evalA s.slots)) (mx.map (evalA s.slots))
  | _ => none
end

section
variable {P : Program} {ρ : List Rb} {w0 w : World} {own : List Nat} {s : St DC} {a : Act}
theorem numKind_spec {e : TypeId} {k : IntKind} (h : numKind P e = some k) : ∃ i, P.info? e = some i ∧ i.zero = some (.int k 0) ∧ i.size = 1 ∧ i.bytes ≤ 256 := by
  unfold numKind at h
  split at h
  · rename_i i hi
    split at h
    · rename_i k' hz
      split at h
      · rename_i hc
        cases h
        simp only [Bool.and_eq_true] at hc
        exact ⟨i, hi, hz, Nat.eq_of_beq_eq_true hc.1, Nat.le_of_ble_eq_true hc.2⟩
      · cases h
    · cases h
  · cases h
theorem makeA_sound {o : Oper} {t : TypeId} {l : Operand} {k0 : IntKind} {n : Int} {q : T DC (AV DC × List (W DC))} {z : AV DC × List (W DC)} (ho : o.op = .makeSlice t l l) (hv : a.eval l = .int k0 n) (H : WR w0 own ρ s.heap w) (hq : makeA (D := DC) P s.heap t n = some q) (h : q.pick = some z) : Does P w0 own ρ s a w o z := by
  unfold makeA at hq
  split at hq
  · rename_i e hu
    split at hq
    · rename_i k hk
      obtain ⟨i, hi, hz, hs, hb⟩ := numKind_spec hk
      cases hq
      rcases T.br_some h with ⟨h1, h2⟩ | ⟨_, h2⟩
      · have := T.ret_some h2
        subst this
        have h1 : 0 ≤ n ∧ n < ((16777216 : Nat) : Int) := of_decide_eq_true h1
        obtain ⟨m, rfl⟩ : ∃ m : Nat, n = (m : Int) := ⟨n.toNat, by omega⟩
        have hm : m < 16777216 := by omega
        have hbm : (i.bytes : Int) * (m : Int) ≤ 281474976710656 := by
          have h2 : i.bytes * m ≤ 256 * 16777216 := Nat.mul_le_mul hb (by omega)
          have h3 : ((i.bytes * m : Nat) : Int) = (i.bytes : Int) * (m : Int) := Int.natCast_mul _ _
          omega
        have hrun := run_makeSlice (P := P) w t e i _ hu hi hz k0 k0 (m : Int) (m : Int) (by omega) (Int.le_refl _) (by rw [hs, Int.toNat_natCast]; omega) hbm (by omega)
        rw [Int.toNat_natCast, hs, Nat.mul_one] at hrun
        have hsz : (madeCells (Value.int k 0).cells m).size = m := by simp [madeCells]
        have hden : (AN.rc (DC.toN (m : Int)) 1 0 : AN DC).den = m := by
          show (m : Int).toNat * 1 + 0 = m
          omega
        refine ⟨.slice (some ⟨w.heap.size, 0, none⟩) m m, w.alloc (.cells (madeCells (Value.int k 0).cells m) e), ρ ++ [(w.heap.size, (madeCells (Value.int k 0).cells m).size, 0)], .inl (by simp only [execOp, ho, hv, Sem.run_bind, hrun, Result.andThen_ok, Sem.run_pure]), Ext.push _ _, ⟨_, new_rel H _, some ⟨w.heap.size, 0, none⟩, m, by rw [hden], hden.symm, rfl⟩, ?_, rfl, fun e => by cases e⟩
        refine H.push ⟨_, rfl, ⟨rfl, rfl⟩, ?_⟩
        intro q c kk f hq hf
        have hq' : q < m := by
          have : nN (DC.toN (m : Int)) = m := by show (m : Int).toNat = m; omega
          rw [this] at hq
          exact hq
        cases c with
        | zero =>
          simp only [List.getElem?_cons_zero, Option.some.injEq, Prod.mk.injEq] at hf
          obtain ⟨rfl, rfl⟩ := hf
          have e0 : (0 : Nat) + (q * ([(CK.int k, (DC.constF (DC.num 0)))] : List (CK × (Nat → Int))).length + 0) = q := by simp
          show (madeCells (Value.int k 0).cells m)[0 + (q * 1 + 0)]? = _
          rw [show 0 + (q * 1 + 0) = q by omega]
          unfold madeCells
          rw [Array.getElem?_map, Array.getElem?_range]
          simp [hq', Value.cells, Nat.mod_one]
          rfl
        | succ c => simp at hf
      · cases h2
    · cases hq
  · cases hq

/-- A bound, and what it comes to. -/
def BO (x : Option Value) (dflt y n : Nat) : Prop := match x with
  | none => n = dflt
  | some v => ∃ k i, v = .int k i ∧ 0 ≤ i ∧ i ≤ (y : Int) ∧ n = i.toNat
theorem sliceBounds_run {lo hi mx : Option Value} {len cap l h m : Nat} (hmx : hi = none → mx = none) (hm : BO mx cap cap m) (hh : BO hi len m h) (hl : BO lo 0 h l) (w : World) : (Instr.sliceBounds true len cap lo hi mx).run P w = .ok (l, h, m) w := by
  cases mx with
  | none =>
    cases hi with
    | none =>
      cases lo with
      | none =>
        have e1 : m = cap := hm
        have e2 : h = len := hh
        have e3 : l = 0 := hl
        subst e1 e2 e3
        rfl
      | some v =>
        have e1 : m = cap := hm
        have e2 : h = len := hh
        obtain ⟨k, i, rfl, i0, i1, rfl⟩ := hl
        subst e1 e2
        simp [Instr.sliceBounds, run_sliceBound w k i _ _ i0 i1]
    | some v2 =>
      have e1 : m = cap := hm
      obtain ⟨k2, i2, rfl, j0, j1, rfl⟩ := hh
      subst e1
      cases lo with
      | none =>
        have e3 : l = 0 := hl
        subst e3
        simp [Instr.sliceBounds, run_sliceBound w k2 i2 _ _ j0 j1]
      | some v =>
        obtain ⟨k, i, rfl, i0, i1, rfl⟩ := hl
        simp [Instr.sliceBounds, run_sliceBound w k2 i2 _ _ j0 j1, run_sliceBound w k i _ _ i0 i1]
  | some v3 =>
    obtain ⟨k3, i3, rfl, m0, m1, rfl⟩ := hm
    cases hi with
    | none => exact absurd (hmx rfl) (by simp)
    | some v2 =>
      obtain ⟨k2, i2, rfl, j0, j1, rfl⟩ := hh
      cases lo with
      | none =>
        have e3 : l = 0 := hl
        subst e3
        simp [Instr.sliceBounds, run_sliceBound w k3 i3 _ _ m0 m1, run_sliceBound w k2 i2 _ _ j0 j1]
      | some v =>
        obtain ⟨k, i, rfl, i0, i1, rfl⟩ := hl
        simp [Instr.sliceBounds, run_sliceBound w k3 i3 _ _ m0 m1, run_sliceBound w k2 i2 _ _ j0 j1, run_sliceBound w k i _ _ i0 i1]
theorem boundA_spec {x : Option (AV DC)} {v : Option Value} {d y : Nat} {q : Bool} {n : Nat} (hx : match x, v with | none, none => True | some a, some u => VRel ρ a u | _, _ => False) (h : boundA (D := DC) x d y = some (q, n)) (hq : q = true) : BO v d y n ∧ n ≤ y := by
  cases x with
  | none =>
    cases v with
    | some _ => exact hx.elim
    | none =>
      simp only [boundA, Option.some.injEq, Prod.mk.injEq] at h
      obtain ⟨rfl, rfl⟩ := h
      exact ⟨rfl, of_decide_eq_true hq⟩
  | some a =>
    cases v with
    | none => exact hx.elim
    | some u =>
      cases a <;> first | (simp [boundA] at h; done) | skip
      rename_i k i
      simp only [boundA, Option.some.injEq, Prod.mk.injEq] at h
      obtain ⟨rfl, rfl⟩ := h
      have e : u = .int k i.den := hx
      have h1 : 0 ≤ (i.val : Int) ∧ (i.val : Int) < ((nN (DC.nadd y (DC.nlit 1)) : Nat) : Int) := of_decide_eq_true hq
      rw [AI.val_den] at h1
      have h3 : i.den < ((Nat.succ y : Nat) : Int) := h1.2
      have h4 : i.den ≤ (y : Int) := by rw [Nat.succ_eq_add_one] at h3; omega
      have h5 : DC.toN (i.val : Int) = i.den.toNat := by
        show (i.val : Int).toNat = _
        rw [AI.val_den]
      refine ⟨⟨k, i.den, e, h1.1, h4, h5⟩, ?_⟩
      have h6 : (Int.toNat i.val : Nat) = i.den.toNat := h5
      show Int.toNat i.val ≤ y
      rw [h6]
      have := h1.1
      omega
theorem moveA_spec {x : Option (AV DC)} {v : Option Value} {off off' : AN DC} {y sz : Nat} {l : Nat} (hx : match x, v with | none, none => True | some a, some u => VRel ρ a u | _, _ => False) (h : moveA (D := DC) off x sz = some off') (hb : BO v 0 y l) : off'.den = off.den + l * sz := by
  cases x with
  | none =>
    cases v with
    | some _ => exact hx.elim
    | none =>
      simp only [moveA, Option.some.injEq] at h
      have : l = 0 := hb
      subst this
      rw [h]
      omega
  | some a =>
    cases v with
    | none => exact hx.elim
    | some u =>
      cases a <;> first | (simp [moveA] at h; done) | skip
      rename_i k i
      have e : u = .int k i.den := hx
      obtain ⟨k', i', e', h0, h1, h2⟩ := hb
      rw [e] at e'
      simp only [Value.int.injEq] at e'
      obtain ⟨rfl, rfl⟩ := e'
      rw [adv_den h h0, h2]
theorem apart_of (h l m : Nat) (h1 : 0 < h - l) (h2 : h ≤ m) : ¬ m = l := by omega
theorem optRel {o : Option Operand} (hS : RS ρ s.slots a) : match o.map (evalA s.slots), o.map a.eval with | none, none => True | some x, some u => VRel ρ x u | _, _ => False := by
  cases o with
  | none => exact trivial
  | some x => exact evalA_rel hS x
theorem sliceA_sound {o : Oper} {t : TypeId} {x : Operand} {lo hi mx : Option Operand} {q : T DC (AV DC × List (W DC))} {z : AV DC × List (W DC)} (ho : o.op = .slice t x lo hi mx) (hS : RS ρ s.slots a) (H : WR w0 own ρ s.heap w)
    (hq : sliceA (D := DC) P t (evalA s.slots x) (lo.map (evalA s.slots)) (hi.map (evalA s.slots)) (mx.map (evalA s.slots)) = some q) (h : q.pick = some z) : Does P w0 own ρ s a w o z := by
  have hv := evalA_rel hS x
  have hlo := optRel (o := lo) hS
  have hhi := optRel (o := hi) hS
  have hmx := optRel (o := mx) hS
  have hnn : hiFor (hi.map (evalA s.slots)) (mx.map (evalA s.slots)) = true → (hi.map a.eval = none → mx.map a.eval = none) := by
    cases hi <;> cases mx <;> simp [hiFor]
  generalize lo.map (evalA s.slots) = lo' at *
  generalize hi.map (evalA s.slots) = hi' at *
  generalize mx.map (evalA s.slots) = mx' at *
  unfold sliceA at hq
  split at hq
  · rename_i e b off len cap hu hx
    split at hq
    · rename_i sz n c hs hn hc hb
      split at hq
      · rename_i qm m hm
        split at hq
        · rename_i qh hh' hh
          split at hq
          · rename_i ql l off' hl hoff
            cases hq
            rcases T.br_some h with ⟨h1, h2⟩ | ⟨_, h2⟩
            · have := T.ret_some h2
              subst this
              have h1' : (qm && (qh && ql)) = true := h1
              simp only [Bool.and_eq_true] at h1'
              obtain ⟨q1, q2, q3⟩ := h1'
              rw [hx] at hv
              obtain ⟨r, hr, p, c', hval, hc', hp⟩ := hv
              obtain ⟨bm, lm⟩ := boundA_spec hmx hm q1
              obtain ⟨bh, lh⟩ := boundA_spec hhi hh q2
              obtain ⟨bl, ll⟩ := boundA_spec hlo hl q3
              have ecap : c' = (c : Nat) := hc'.trans (num_den hc)
              have elen : len.den = (n : Nat) := num_den hn
              subst ecap
              have bh' : BO (hi.map a.eval) len.den m hh' := by rw [elen]; exact bh
              have hrun := sliceBounds_run (P := P) (hnn hb) bm bh' bl w
              have hfull : (execOp a.eval o).run P w = .ok (.value (.slice (if m = l then p else p.map (·.add (l * sz))) (hh' - l) (m - l))) w := by
                simp only [execOp, ho, Instr.sliceAt, Sem.run_bind, run_underlying hu, Result.andThen_ok, hval, Instr.slice, hrun, run_sizeT hs, Sem.run_pure]
              have hden : (AN.rc (DC.nsub hh' l) 1 0 : AN DC).den = (hh' : Nat) - (l : Nat) := by
                show ((hh' : Nat) - (l : Nat)) * 1 + 0 = _
                rw [Nat.add_zero, Nat.mul_one]
              refine Does.same H hfull ⟨r, hr, (if m = l then p else p.map (·.add (l * sz))), (m : Nat) - (l : Nat), by rw [hden], ?_⟩
              · have hle : (hh' : Nat) ≤ (m : Nat) := lh
                refine ⟨by rw [hden]; exact Nat.sub_le_sub_right hle _, ?_⟩
                rw [hp]
                by_cases hml : m = l
                · rw [if_pos hml]
                  exact ⟨_, rfl, .inl (Nat.sub_eq_zero_of_le (Nat.le_of_eq hml))⟩
                · rw [if_neg hml]
                  have ho' : off'.den = off.den + l * sz := moveA_spec hlo hoff bl
                  exact ⟨off'.den, by simp only [Option.map_some, Rb.ad_add, ho'], .inr ⟨rfl, .inl rfl⟩⟩
            · cases h2
          · cases hq
        · cases hq
      · cases hq
    · cases hq
  · cases hq
theorem sliceU_sound {o : Oper} {t : TypeId} {x : Operand} {lo hi mx : Option Operand} {q : T DC (AV DC × List (W DC))} {z : AV DC × List (W DC)} (ho : o.op = .slice t x lo hi mx) (hS : RS ρ s.slots a) (H : WR w0 own ρ s.heap w)
    (hq : sliceU (D := DC) P t (evalA s.slots x) (lo.map (evalA s.slots)) (hi.map (evalA s.slots)) (mx.map (evalA s.slots)) = some q) (h : q.pick = some z) : Does P w0 own ρ s a w o z := by
  have hv := evalA_rel hS x
  have hlo := optRel (o := lo) hS
  have hhi := optRel (o := hi) hS
  have hmx := optRel (o := mx) hS
  have hnn : hiFor (hi.map (evalA s.slots)) (mx.map (evalA s.slots)) = true → (hi.map a.eval = none → mx.map a.eval = none) := by
    cases hi <;> cases mx <;> simp [hiFor]
  generalize lo.map (evalA s.slots) = lo' at *
  generalize hi.map (evalA s.slots) = hi' at *
  generalize mx.map (evalA s.slots) = mx' at *
  unfold sliceU at hq
  split at hq
  · rename_i e b off len wc hu hx
    split at hq
    · rename_i sz n hs hn hb
      split at hq
      · rename_i qm m hm
        split at hq
        · rename_i qh hh' hh
          split at hq
          · rename_i ql l off' hl hoff
            cases hq
            rcases T.br_some h with ⟨h1, h2⟩ | ⟨_, h2⟩
            · have := T.ret_some h2
              subst this
              have h1' : (qm && (qh && ql)) = true := h1
              simp only [Bool.and_eq_true] at h1'
              obtain ⟨q1, q2, q3⟩ := h1'
              rw [hx] at hv
              obtain ⟨r, hr, p, c', hval, hlc, ad0, hp, had⟩ := hv
              obtain ⟨bm, lm⟩ := boundA_spec hmx hm q1
              obtain ⟨bh, lh⟩ := boundA_spec hhi hh q2
              obtain ⟨bl, ll⟩ := boundA_spec hlo hl q3
              have elen : len.den = (n : Nat) := num_den hn
              rw [elen] at hlc
              -- the bound that is meant: the one that is given, or the capacity
              obtain ⟨m', bm', hmm, hmc⟩ : ∃ m' : Nat, BO (mx.map a.eval) c' c' m' ∧ m ≤ m' ∧ m' ≤ c' := by
                cases hmv : mx.map a.eval with
                | none => exact ⟨c', rfl, Nat.le_trans lm hlc, Nat.le_refl _⟩
                | some v =>
                  rw [hmv] at bm
                  obtain ⟨k, i, e1, e2, e3, e4⟩ := bm
                  exact ⟨m, ⟨k, i, e1, e2, by omega, e4⟩, Nat.le_refl _, Nat.le_trans lm hlc⟩
              have bh' : BO (hi.map a.eval) len.den m' hh' := by
                rw [elen]
                cases hhv : hi.map a.eval with
                | none => rw [hhv] at bh; exact bh
                | some v =>
                  rw [hhv] at bh
                  obtain ⟨k, i, e1, e2, e3, e4⟩ := bh
                  exact ⟨k, i, e1, e2, Int.le_trans e3 (Int.ofNat_le.2 hmm), e4⟩
              have hrun := sliceBounds_run (P := P) (hnn hb) bm' bh' bl w
              have hfull : (execOp a.eval o).run P w = .ok (.value (.slice (if m' = l then p else p.map (·.add (l * sz))) (hh' - l) (m' - l))) w := by
                simp only [execOp, ho, Instr.sliceAt, Sem.run_bind, run_underlying hu, Result.andThen_ok, hval, Instr.slice, hrun, run_sizeT hs, Sem.run_pure]
              have hden : (AN.rc (DC.nsub hh' l) 1 0 : AN DC).den = (hh' : Nat) - (l : Nat) := by
                show ((hh' : Nat) - (l : Nat)) * 1 + 0 = _
                rw [Nat.add_zero, Nat.mul_one]
              have hle : (hh' : Nat) ≤ (m' : Nat) := Nat.le_trans lh hmm
              refine Does.same H hfull ⟨r, hr, (if m' = l then p else p.map (·.add (l * sz))), (m' : Nat) - (l : Nat), by rw [hden], ?_⟩
              refine ⟨by rw [hden]; exact Nat.sub_le_sub_right hle _, ?_⟩
              rw [hp]
              by_cases hml : m' = l
              · rw [if_pos hml]
                exact ⟨_, rfl, .inl (Nat.sub_eq_zero_of_le (Nat.le_of_eq hml))⟩
              · rw [if_neg hml]
                have ho' : off'.den = off.den + l * sz := moveA_spec hlo hoff bl
                have hcp : ad0 = off.den := by
                  rcases had with hc0 | ⟨h3, _⟩
                  · have : (l : Nat) ≤ (hh' : Nat) := ll
                    exact absurd (show m' = l by omega) hml
                  · exact h3
                exact ⟨off'.den, by simp only [Option.map_some, Rb.ad_add, ho', hcp], .inr ⟨rfl, .inl rfl⟩⟩
            · cases h2
          · cases hq
        · cases hq
      · cases hq
    · cases hq
  · cases hq
theorem sliceN_sound {o : Oper} {t : TypeId} {x : Operand} {lo hi mx : Option Operand} {q : T DC (AV DC × List (W DC))} {z : AV DC × List (W DC)} (ho : o.op = .slice t x lo hi mx) (hS : RS ρ s.slots a) (H : WR w0 own ρ s.heap w)
    (hq : sliceN (D := DC) P t (evalA s.slots x) (lo.map (evalA s.slots)) (hi.map (evalA s.slots)) (mx.map (evalA s.slots)) = some q) (h : q.pick = some z) : Does P w0 own ρ s a w o z := by
  have hv := evalA_rel hS x
  have hlo := optRel (o := lo) hS
  have hhi := optRel (o := hi) hS
  have hmx := optRel (o := mx) hS
  have hnn : hiFor (hi.map (evalA s.slots)) (mx.map (evalA s.slots)) = true → (hi.map a.eval = none → mx.map a.eval = none) := by
    cases hi <;> cases mx <;> simp [hiFor]
  generalize lo.map (evalA s.slots) = lo' at *
  generalize hi.map (evalA s.slots) = hi' at *
  generalize mx.map (evalA s.slots) = mx' at *
  unfold sliceN at hq
  split at hq
  · rename_i e b off len hu hx
    split at hq
    · rename_i sz n hs hn hb
      split at hq
      · rename_i qm m hm
        split at hq
        · rename_i qh hh' hh
          split at hq
          · rename_i ql l off' hl hoff
            cases hq
            rcases T.br_some h with ⟨h1, h2⟩ | ⟨_, h2⟩
            · have := T.ret_some h2
              subst this
              have h1' : (qm && (qh && ql)) = true := h1
              simp only [Bool.and_eq_true] at h1'
              obtain ⟨q1, q2, q3⟩ := h1'
              rw [hx] at hv
              obtain ⟨r, hr, p, c', hval, hlc, hp⟩ := hv
              obtain ⟨bm, lm⟩ := boundA_spec hmx hm q1
              obtain ⟨bh, lh⟩ := boundA_spec hhi hh q2
              obtain ⟨bl, ll⟩ := boundA_spec hlo hl q3
              have elen : len.den = (n : Nat) := num_den hn
              rw [elen] at hlc
              -- the bound that is meant: the one that is given, or the capacity
              obtain ⟨m', bm', hmm, hmc⟩ : ∃ m' : Nat, BO (mx.map a.eval) c' c' m' ∧ m ≤ m' ∧ m' ≤ c' := by
                cases hmv : mx.map a.eval with
                | none => exact ⟨c', rfl, Nat.le_trans lm hlc, Nat.le_refl _⟩
                | some v =>
                  rw [hmv] at bm
                  obtain ⟨k, i, e1, e2, e3, e4⟩ := bm
                  exact ⟨m, ⟨k, i, e1, e2, by omega, e4⟩, Nat.le_refl _, Nat.le_trans lm hlc⟩
              have bh' : BO (hi.map a.eval) len.den m' hh' := by
                rw [elen]
                cases hhv : hi.map a.eval with
                | none => rw [hhv] at bh; exact bh
                | some v =>
                  rw [hhv] at bh
                  obtain ⟨k, i, e1, e2, e3, e4⟩ := bh
                  exact ⟨k, i, e1, e2, Int.le_trans e3 (Int.ofNat_le.2 hmm), e4⟩
              have hrun := sliceBounds_run (P := P) (hnn hb) bm' bh' bl w
              have hfull : (execOp a.eval o).run P w = .ok (.value (.slice (if m' = l then p else p.map (·.add (l * sz))) (hh' - l) (m' - l))) w := by
                simp only [execOp, ho, Instr.sliceAt, Sem.run_bind, run_underlying hu, Result.andThen_ok, hval, Instr.slice, hrun, run_sizeT hs, Sem.run_pure]
              have hden : (AN.rc (DC.nsub hh' l) 1 0 : AN DC).den = (hh' : Nat) - (l : Nat) := by
                show ((hh' : Nat) - (l : Nat)) * 1 + 0 = _
                rw [Nat.add_zero, Nat.mul_one]
              have hle : (hh' : Nat) ≤ (m' : Nat) := Nat.le_trans lh hmm
              refine Does.same H hfull ⟨r, hr, (if m' = l then p else p.map (·.add (l * sz))), (m' : Nat) - (l : Nat), by rw [hden], ?_⟩
              refine ⟨by rw [hden]; exact Nat.sub_le_sub_right hle _, ?_⟩
              intro hpos
              rw [hden] at hpos
              have hml : ¬ m' = l := apart_of hh' l m' hpos hle
              have ho' : off'.den = off.den + l * sz := moveA_spec hlo hoff bl
              have hnh : (hh' : Nat) ≤ (n : Nat) := Nat.le_trans lh lm
              have e0 : p = some (r.ad off.den) := hp (by rw [elen]; exact Nat.lt_of_lt_of_le (Nat.lt_of_lt_of_le hpos (Nat.sub_le _ _)) hnh)
              rw [if_neg hml, e0]
              simp only [Option.map_some, Rb.ad_add, ho']
            · cases h2
          · cases hq
        · cases hq
      · cases hq
    · cases hq
  · cases hq
theorem memX_sound {o : Oper} {t : T DC (AV DC × List (W DC))} {z : AV DC × List (W DC)} (ho : memX P o s = some t) (h : t.pick = some z) (hS : RS ρ s.slots a) (H : WR w0 own ρ s.heap w) : Does P w0 own ρ s a w o z := by
  unfold memX at ho
  split at ho
  · rename_i t0 l c hop
    split at ho
    · rename_i hlc
      have := Nat.eq_of_beq_eq_true hlc
      subst this
      split at ho
      · rename_i k n hn
        have hv := evalA_rel hS (.tmp l)
        rw [show evalA s.slots (.tmp l) = .int k n from hn] at hv
        have hv' : a.eval (.tmp l) = .int k n.val := by rw [AI.val_den]; exact hv
        exact makeA_sound hop hv' H ho h
      · cases ho
    · cases ho
  · rename_i t0 x lo hi mx hop
    split at ho
    · rename_i q hq
      cases ho
      exact sliceA_sound hop hS H hq h
    · split at ho
      · rename_i q hq
        cases ho
        exact sliceU_sound hop hS H hq h
      · exact sliceN_sound hop hS H ho h
  · cases ho
end
end Go.Proofs.Ytngcbpcfgolifaa.Ev
