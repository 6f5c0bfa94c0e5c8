/- 'append', strings out of bytes, and whether such strings are the same. Conditions: none. -/
import Derived.Test.YtngcbpcfgolifaaEvMem
import Derived.Deep.AppendSrc
import Derived.Laws.AppendOwn
import Derived.Laws.BytesArg
namespace Go.Proofs.Ytngcbpcfgolifaa.Ev
open Go.RowKit
set_option linter.unusedVariables false
set_option linter.unusedSimpArgs false

section
variable {D : Dom} (P : Program)
def zeroI : Option (AV D) → Bool
  | some (.int _ (.lit n)) => decide (n = 0)
  | _ => false
/-- x[:0:0]. -/
def zeroCut (t : TypeId) (x : AV D) (lo hi mx : Option (AV D)) : Option (T D (AV D × List (W D))) := match P.underlying t, lo with
  | some (.slice e), none => match sizeT P e, zeroI hi && zeroI mx with
    | some _, true => match x with
      | .nilslice => some (.ret (.nilslice, []))
      | .slice b off _ _ => some (.ret (.slice b off (.lit 0) .zero, []))
      | _ => none
    | _, _ => none
  | _, _ => none
/-- A value that is one cell, of which something is known. -/
def oneA : AV D → Bool
  | .bool _ | .int _ _ | .ptr _ _ | .nilptr => true
  | _ => false
/-- What is appended to: the block that is left for good, and the elements' cells. -/
def dstA (h : List (AO D)) (e : TypeId) (w : Nat) : AV D → Option (Option Nat × Nat × List (AV D))
  | .nilslice => some (none, 0, [])
  | .slice b _ (.lit 0) .zero => some (none, 0, [])
  | .slice b _ (.lit 0) (.kn (.lit 0)) => some (none, 0, [])
  | .slice b (.lit 0) (.lit n) (.un v) => if Nat.beq v w then (match h[b]? with
    | some (.cells t cs) => if Nat.beq t e && Nat.ble (n * w) cs.length then some (some b, n, cs.take (n * w)) else none
    | _ => none) else none
  | _ => none
/-- What is appended: its elements' cells, and how many elements. -/
def srcA (h : List (AO D)) (w : Nat) : AV D → Option (List (AV D) × Nat)
  | .nilslice => some ([], 0)
  | .slice b (.lit o) (.lit m) _ => match h[b]? with
    | some (.cells t cs) => if Nat.ble (o + m * w) cs.length then some ((cs.drop o).take (m * w), m) else none
    | _ => none
  | _ => none
/-- The numbers behind a slice: how many there are known, told by what, from where on, how many are meant. -/
def numsA (h : List (AO D)) (k : IntKind) : AV D → Option (D.N × D.F × D.N × D.N)
  | .slice b off len _ => match rowsOf h b, rowAt 1 off, len.num with
    | some (n, [(.int k', f)]), some (x, 0), some m => if decide (k' = k) then some (n, f, x, m) else none
    | _, _, _ => none
  | _ => none
def leaveW : Option Nat → List (W D)
  | none => []
  | some b => [.obj b .gone]
def appLit (h : List (AO D)) (e : TypeId) (w : Nat) (s : AV D) (ob : Option Nat) (n : Nat) (olds news : List (AV D)) (m : Nat) : Option (T D (AV D × List (W D))) :=
  if Nat.beq m 0 then some (.ret (s, [])) else if Nat.ble (n + m) 1000000 && news.all oneA then
    some (.ret (.slice h.length (.lit 0) (.lit (n + m)) (.un w), leaveW ob ++ [.new (.cells e (olds ++ news))])) else none
def appNum (h : List (AO D)) (e : TypeId) (k : IntKind) (n : D.N) (f : D.F) (x m : D.N) : T D (AV D × List (W D)) :=
  .br (D.and (D.leN (D.nadd x m) n) (D.ltN m (D.nlit 16777216))) (.ret (.slice h.length (.lit 0) (.rc m 1 0) .any, [.new (.rows e m [(.int k, D.blitF (D.constF (D.num 0)) (D.nlit 0) f x m)])])) .fail
/-- A list of its own whose length is told by a term: where it stands, how long it is, how many rows are known, and which. -/
def dstS (h : List (AO D)) (e : TypeId) (w : Nat) : AV D → Option (Nat × D.N × D.N × List (CK × D.F))
  | .slice b (.lit 0) len (.un v) => if Nat.beq v w then (match h[b]?, len.num with
    | some (.arr t m fs), some n => if Nat.beq t e && Nat.beq fs.length w then some (b, n, m, fs) else none
    | _, _ => none) else none
  | _ => none
def appSym (h : List (AO D)) (e : TypeId) (w b : Nat) (n m : D.N) (fs : List (CK × D.F)) (news : List (AV D)) : Option (T D (AV D × List (W D))) := match setRow n fs 0 news with
  | some gs => if Nat.beq news.length w && news.all oneA then some (.br (D.and (D.leN n m) (D.ltN n (D.nlit 1000000))) (.ret (.slice h.length (.lit 0) (.rc (D.nadd n (D.nlit 1)) 1 0) (.un w), [.obj b .gone, .new (.arr e (D.nadd n (D.nlit 1)) gs)])) .fail) else none
  | none => none
def appA (h : List (AO D)) (t tx : TypeId) (s x : AV D) : Option (T D (AV D × List (W D))) := match P.underlying t with
  | some (.slice e) => match P.info? e with
    | some i => match i.zero with
      | some z => if Nat.beq t tx && (Nat.ble i.bytes 256 && (Nat.ble 1 i.size && Nat.beq z.cells.size i.size)) then (match dstA h e i.size s with
        | some (ob, n, olds) => match srcA h i.size x with
          | some (news, m) => appLit h e i.size s ob n olds news m
          | none => match ob, z with
            | none, .int k 0 => (match numsA h k x with
              | some (c, f, y, m) => if Nat.beq i.size 1 then some (appNum h e k c f y m) else none
              | none => none)
            | _, _ => none
        | none => match dstS h e i.size s, srcA h i.size x with
          | some (b, n, m, fs), some (news, 1) => appSym h e i.size b n m fs news
          | _, _ => none) else none
      | none => none
    | none => none
  | _ => none
/-- A string out of bytes. -/
def strA (h : List (AO D)) (src dst : TypeId) (x : AV D) : Option (T D (AV D × List (W D))) := match P.underlying src, P.underlying dst with
  | some (.slice e), some .string => match P.underlying e with
    | some (.int .u8) => (match numsA h .u8 x with
      | some (n, f, y, m) => some (.br (D.leN (D.nadd y m) n) (.ret (.sstr (D.byteF f) y m, [])) .fail)
      | none => none)
    | _ => none
  | _, _ => none
def eqStr (neg : Bool) : AV D → AV D → Option (T D (AV D × List (W D)))
  | .sstr f o n, .sstr g q m => let b := D.and (D.eqN n m) (D.eqF f o g q n)
    some (.ret (.bool (.sym (bif neg then D.not b else b)), []))
  | _, _ => none
def appX (o : Oper) (s : St D) : Option (T D (AV D × List (W D))) := match o.op with
  | .slice t x lo hi mx => zeroCut P t (evalA s.slots x) (lo.map (evalA s.slots)) (hi.map (evalA s.slots)) (mx.map (evalA s.slots))
  | .call c => match c.callee, c.args.toList, c.argTypes.toList with
    | .builtin .append, [a, x], [t, tx] => appA P s.heap t tx (evalA s.slots a) (evalA s.slots x)
    | _, _, _ => none
  | .convert a b x => strA P s.heap a b (evalA s.slots x)
  | .binOp op t x y _ => match op, P.underlying t with
    | .eql, some .string => eqStr false (evalA s.slots x) (evalA s.slots y)
    | .neq, some .string => eqStr true (evalA s.slots x) (evalA s.slots y)
    | _, _ => none
  | _ => none
end

section
variable {P : Program} {ρ : List Rb} {w0 w : World} {own : List Nat} {s : St DC} {a : Act}
theorem WR.add {h : List (AO DC)} (H : WR w0 own ρ h w) {r : Rb} {o : AO DC}
    (h1 : ∀ (j : Nat) r' o', h[j]? = some o' → ρ[j]? = some r' → (o.mine = true ∧ o'.real ∨ o'.mine = true ∧ o.real) → r'.1 ≠ r.1)
    (hlt : o.real → r.1 < w.heap.size) (hn : o.mine = true → r.1 ∈ own ∨ w0.heap.size ≤ r.1) (ho : ORel (ρ ++ [r]) r o w.heap[r.1]?) :
    WR w0 own (ρ ++ [r]) (h ++ [o]) w := by
  have hx := Ext.push ρ [r]
  have old : ∀ {i : Nat} {q : Rb}, (ρ ++ [r])[i]? = some q → (i < ρ.length ∧ ρ[i]? = some q) ∨ (i = ρ.length ∧ q = r) := fun {i q} hi => by
    rw [List.getElem?_append] at hi
    split at hi
    · rename_i hl; exact .inl ⟨hl, hi⟩
    · rename_i hl
      have hl' : i - ρ.length = 0 := by
        have := (List.getElem?_eq_some_iff.1 hi).1
        simp at this
        omega
      rw [hl'] at hi
      simp at hi
      exact .inr ⟨by omega, hi.symm⟩
  have hold : ∀ {i : Nat} {o' : AO DC}, i < ρ.length → (h ++ [o])[i]? = some o' → h[i]? = some o' := fun {i o'} hl ho' => by
    rwa [List.getElem?_append_left (by rw [← H.len]; exact hl)] at ho'
  have hlast : ∀ {o' : AO DC}, (h ++ [o])[ρ.length]? = some o' → o' = o := fun {o'} ho' => by
    rw [H.len, List.getElem?_append_right (Nat.le_refl _)] at ho'
    simp at ho'
    exact ho'.symm
  refine ⟨by simp [H.len], ?_, ?_, ?_, ?_, H.frame, H.size, H.os, H.tape, H.output, H.pin⟩
  · intro i j q q' o1 o2 g1 g2 l1 l2 hi hj e
    rcases old hi with ⟨a1, k1⟩ | ⟨e1, k1⟩ <;> rcases old hj with ⟨a2, k2⟩ | ⟨e2, k2⟩
    · exact H.inj i j q q' o1 o2 (hold a1 g1) (hold a2 g2) l1 l2 k1 k2 e
    · subst e2 k2
      rw [hlast g2] at l2
      exact absurd e (h1 i q o1 (hold a1 g1) k1 (.inr ⟨l1, l2⟩))
    · subst e1 k1
      rw [hlast g1] at l1
      exact absurd e.symm (h1 j q' o2 (hold a2 g2) k2 (.inl ⟨l1, l2⟩))
    · omega
  · intro i q o' ho' hl' hi
    rcases old hi with ⟨hl, k1⟩ | ⟨e1, k1⟩
    · exact H.lt _ _ _ (hold hl ho') hl' k1
    · subst e1 k1
      rw [hlast ho'] at hl'
      exact hlt hl'
  · intro i q o' ho' hm hi
    rcases old hi with ⟨hl, k1⟩ | ⟨e1, k1⟩
    · exact H.new i q o' (hold hl ho') hm k1
    · subst e1 k1
      rw [hlast ho'] at hm
      exact hn hm
  · intro i o' q ho' hi
    rcases old hi with ⟨hl, k1⟩ | ⟨e1, k1⟩
    · exact (H.obj i o' q (hold hl ho') k1).mono hx
    · subst e1 k1
      rw [hlast ho']
      exact ho
theorem WR.unreal {h : List (AO DC)} (H : WR w0 own ρ h w) (r : Rb) {o : AO DC} (hr : ¬ o.real) (hm : o.mine = false) : WR w0 own (ρ ++ [r]) (h ++ [o]) w :=
  H.add (fun j r' o' _ _ hh => by rcases hh with ⟨h1, _⟩ | ⟨_, h1⟩; · rw [hm] at h1; cases h1
                                  · exact absurd h1 hr) (fun h => absurd h hr) (fun h => by rw [hm] at h; cases h) (ORel.unreal hr)
theorem WR.move {h : List (AO DC)} (H : WR w0 own ρ h w) {b : Nat} {r : Rb} {o : AO DC} (hb : h[b]? = some o) (hr : ρ[b]? = some r) (hm : o.mine = true) : WR w0 own (ρ ++ [r]) (h.set b .gone ++ [o]) w := by
  refine (H.forget b).add (fun j r' o' hj hr' hh e => ?_) (fun ho => H.lt _ _ _ hb ho hr) (fun ho => H.new _ _ _ hb ho hr) ((H.obj _ _ _ hb hr).mono (Ext.push _ _))
  rw [List.getElem?_set] at hj
  by_cases hbj : b = j
  · subst hbj
    rw [if_pos rfl] at hj
    split at hj
    · cases hj
      rcases hh with ⟨_, h1⟩ | ⟨h1, _⟩
      · exact h1
      · cases h1
    · cases hj
  · rw [if_neg hbj] at hj
    rcases hh with ⟨h1, h2⟩ | ⟨h1, h2⟩
    · exact hbj (H.inj b j r r' o o' hb hj h1 h2 hr hr' e.symm)
    · exact hbj (H.inj j b r' r o' o hj hb h1 h2 hr' hr e).symm
theorem oneA_rel {x : AV DC} {v : Value} (h : oneA x = true) (hv : VRel ρ x v) : v.oneCell' = true := by
  cases x <;> first | (cases h; done) | skip
  · cases hv; rfl
  · cases hv; rfl
  · obtain ⟨r, _, rfl⟩ := hv; rfl
  · cases hv; rfl
theorem ones_rel : ∀ {l : List (AV DC)} {vs : List Value}, l.all oneA = true → VRels ρ l vs → ∀ u ∈ vs, u.oneCell' = true
  | [], vs, _, hv, u, hu => by
    have := hv.length
    cases vs with
    | nil => cases hu
    | cons _ _ => cases this
  | x :: l, vs, h, hv, u, hu => by
    obtain ⟨v, us, rfl, h1, h2⟩ := hv
    rw [List.all_cons, Bool.and_eq_true] at h
    rcases List.mem_cons.1 hu with rfl | hu
    · exact oneA_rel h.1 h1
    · exact ones_rel h.2 h2 u hu

theorem zeroI_rel {x : Option (AV DC)} {v : Option Value} (hx : match x, v with | none, none => True | some a, some u => VRel ρ a u | _, _ => False) (h : zeroI x = true) (y : Nat) : BO v y y 0 ∧ v ≠ none := by
  unfold zeroI at h
  split at h
  · rename_i k n
    cases v with
    | none => exact hx.elim
    | some u =>
      have e : u = .int k n := hx
      have hn : n = 0 := of_decide_eq_true h
      subst hn
      exact ⟨⟨k, 0, e ▸ rfl, Int.le_refl _, Int.natCast_nonneg _, rfl⟩, fun e => by cases e⟩
  · cases h
theorem zeroCut_sound {o : Oper} {t : TypeId} {x : Operand} {lo hi mx : Option Operand} {q : T DC (AV DC × List (W DC))} {z : AV DC × List (W DC)} (ho : o.op = .slice t x lo hi mx) (hS : RS ρ s.slots a) (H : WR w0 own ρ s.heap w)
    (hq : zeroCut (D := DC) P t (evalA s.slots x) (lo.map (evalA s.slots)) (hi.map (evalA s.slots)) (mx.map (evalA s.slots)) = some q) (h : q.pick = some z) : Does P w0 own ρ s a w o z := by
  have hv := evalA_rel hS x
  have hlo := optRel (o := lo) hS
  have hhi := optRel (o := hi) hS
  have hmx := optRel (o := mx) hS
  generalize lo.map (evalA s.slots) = lo' at *
  generalize hi.map (evalA s.slots) = hi' at *
  generalize mx.map (evalA s.slots) = mx' at *
  unfold zeroCut at hq
  split at hq
  · rename_i e hu
    split at hq
    · rename_i sz hs hz
      rw [Bool.and_eq_true] at hz
      have hlo' : lo.map a.eval = none := by
        cases hl : lo.map a.eval with
        | none => rfl
        | some u => rw [hl] at hlo; exact hlo.elim
      have run : ∀ (p : Option Addr) (l c : Nat), a.eval x = .slice p l c → (execOp a.eval o).run P w = .ok (.value (.slice p 0 0)) w := by
        intro p l c hval
        have bh := (zeroI_rel hhi hz.1 0).1
        obtain ⟨bm, hm⟩ := zeroI_rel hmx hz.2 c
        have bm' : BO (mx.map a.eval) c c 0 := bm
        have bh' : BO (hi.map a.eval) l 0 0 := by
          have := (zeroI_rel hhi hz.1 0)
          cases hh : hi.map a.eval with
          | none => exact absurd hh this.2
          | some u =>
            rw [hh] at this
            exact this.1
        have hrun := sliceBounds_run (P := P) (lo := lo.map a.eval) (hi := hi.map a.eval) (mx := mx.map a.eval) (len := l) (cap := c) (l := 0) (h := 0) (m := 0) (fun e => absurd e (zeroI_rel hhi hz.1 0).2) bm' bh' (by rw [hlo']; rfl) w
        simp only [execOp, ho, Instr.sliceAt, Sem.run_bind, run_underlying hu, Result.andThen_ok, hval, Instr.slice, hrun, run_sizeT hs, Sem.run_pure]
        rfl
      split at hq
      · rename_i hx
        cases hq
        have := T.ret_some h
        subst this
        rw [hx] at hv
        exact Does.same H (run _ _ _ hv) rfl
      · rename_i b off len cap hx
        cases hq
        have := T.ret_some h
        subst this
        rw [hx] at hv
        obtain ⟨r, hr, p, c, hval, _⟩ := hv
        exact Does.same H (run _ _ _ hval) ⟨r, hr, p, 0, rfl, rfl, rfl⟩
      · cases hq
    · cases hq
  · cases hq

theorem cells_from {h : List (AO DC)} (H : WR w0 own ρ h w) {b o n : Nat} {t : TypeId} {cs : List (AV DC)} {r : Rb} (hb : h[b]? = some (.cells t cs)) (hr : ρ[b]? = some r) (hle : o + n ≤ cs.length) :
    ∃ vs, w.heap[r.1]? = some (.cells vs t (0, 0)) ∧ r.own vs.size ∧ ((vs.toList.drop o).take n).length = n ∧ VRels ρ ((cs.drop o).take n) ((vs.toList.drop o).take n) ∧ ∀ w' : World, w'.heap = w.heap → ∀ (j : Nat) u, ((vs.toList.drop o).take n)[j]? = some u → w'.cell? ((r.ad o).add j) = some u := by
  obtain ⟨vs, hvs, hsz, hrel⟩ := H.obj _ _ _ hb hr
  have hlen := hrel.le
  have h1 : VRels ρ ((cs.drop o).take n) (((vs.toList.take cs.length).drop o).take n) := (hrel.drop o).take n
  have h2 : ((vs.toList.take cs.length).drop o).take n = (vs.toList.drop o).take n := by
    rw [List.drop_take, List.take_take, Nat.min_eq_left (by omega)]
  rw [h2] at h1
  refine ⟨vs, hvs, hsz, by rw [List.length_take, List.length_drop]; omega, h1, fun w' hw j u hj => ?_⟩
  rw [List.getElem?_take] at hj
  split at hj
  · rw [List.getElem?_drop] at hj
    rw [Rb.ad_own hsz, Addr.add_lit, cell_of_row w' r.1 (o + j) vs t (0, 0) (by rw [hw]; exact hvs)]
    simpa using hj
  · cases hj
theorem run_append_none (w : World) (t ty e : TypeId) (i : TypeInfo) (hu : P.underlying t = some (.slice e)) (hi : P.info? e = some i) (base : Option Addr) (sLen sCap : Nat) (p : Option Addr) (c : Nat) (hle : sLen ≤ sCap) :
    (Builtin.append_ #[t, t] ty #[.slice base sLen sCap, .slice p 0 c]).run P w = .ok (.slice base sLen sCap) w := by
  cases base with
  | none => cases p <;> simp [Builtin.append_, run_underlying hu, sizeOf, typeInfo, hi, Builtin.lenOf, hle, Builtin.firstCells, loadCells, loadCellsFrom]
  | some ad => cases p <;> simp [Builtin.append_, run_underlying hu, sizeOf, typeInfo, hi, Builtin.lenOf, hle, Builtin.firstCells, loadCells, loadCellsFrom, storeCells]
theorem srcA_spec {h : List (AO DC)} (H : WR w0 own ρ h w) {k : Nat} {x : AV DC} {v : Value} {news : List (AV DC)} {m : Nat} (hx : srcA h k x = some (news, m)) (hv : VRel ρ x v) :
    ∃ p c, v = .slice p m c ∧ (0 < m → ∃ ad ns, p = some ad ∧ ns.length = m * k ∧ VRels ρ news ns ∧ ∀ w' : World, w'.heap = w.heap → ∀ (j : Nat) u, ns[j]? = some u → w'.cell? (ad.add j) = some u) := by
  unfold srcA at hx
  split at hx
  · cases hx
    exact ⟨none, 0, hv, fun h => absurd h (by decide)⟩
  · rename_i b o m' cap
    split at hx
    · rename_i t cs hb
      split at hx
      · rename_i hle
        cases hx
        obtain ⟨r, hr, p, c, hval, hp⟩ := hv
        refine ⟨p, c, hval, fun hm => ?_⟩
        obtain ⟨vs, _, _, h1, h2, h3⟩ := cells_from H hb hr (Nat.le_of_ble_eq_true hle)
        exact ⟨r.ad o, _, hp.at hm, h1, h2, h3⟩
      · cases hx
    · cases hx
  · cases hx
theorem fill_size (z : Array Value) (n k : Nat) (h : z.size = k) : (Builtin.zeroCells z n).size = n * k := by rw [size_zeroCells, h]
theorem heap_drew (w : World) : w.drew.heap = w.heap := rfl
theorem appLit_sound {o : Oper} {t ty e : TypeId} {i : TypeInfo} {z0 : Value} {s' x' : AV DC} {vs vx : Value} (hrun : (execOp a.eval o).run P w = ((Builtin.append_ #[t, t] ty #[vs, vx]).run P w).andThen fun v w' => .ok (.value v) w')
    (hu : P.underlying t = some (.slice e)) (hi : P.info? e = some i) (hz : i.zero = some z0) (hb : i.bytes ≤ 256) (hsz : 1 ≤ i.size) (hzs : z0.cells.size = i.size)
    (H : WR w0 own ρ s.heap w) (hs : VRel ρ s' vs) (hx : VRel ρ x' vx) {ob : Option Nat} {n : Nat} {olds news : List (AV DC)} {m : Nat} (hd : dstA s.heap e i.size s' = some (ob, n, olds)) (hsrc : srcA s.heap i.size x' = some (news, m))
    {q : T DC (AV DC × List (W DC))} {z : AV DC × List (W DC)} (hq : appLit s.heap e i.size s' ob n olds news m = some q) (h : q.pick = some z) : Does P w0 own ρ s a w o z := by
  obtain ⟨p, cx, rfl, hp⟩ := srcA_spec H hsrc hx
  -- what is appended to
  have hdst : ∃ base cap, vs = .slice base n cap ∧ n ≤ cap ∧ ((ob = none ∧ olds = [] ∧ n = 0 ∧ cap = 0) ∨ ∃ b r cs cur, ob = some b ∧ s.heap[b]? = some (.cells e cs) ∧ ρ[b]? = some r ∧ n * i.size ≤ cs.length ∧ olds = cs.take (n * i.size) ∧
      w.heap[r.1]? = some (.cells cur e (0, 0)) ∧ r.own cur.size ∧ (cap = 0 ∨ (base = some ⟨r.1, 0, none⟩ ∧ cap * i.size ≤ cur.size)) ∧ ∃ ad, base = some ad) := by
    unfold dstA at hd
    split at hd
    · cases hd
      exact ⟨none, 0, hs, Nat.le_refl _, .inl ⟨rfl, rfl, rfl, rfl⟩⟩
    · cases hd
      obtain ⟨r, _, p', c', rfl, h1, _⟩ := hs
      exact ⟨p', c', rfl, Nat.zero_le _, .inl ⟨rfl, rfl, rfl, h1⟩⟩
    · cases hd
      obtain ⟨r, _, p', c', rfl, h1, _⟩ := hs
      exact ⟨p', c', rfl, Nat.zero_le _, .inl ⟨rfl, rfl, rfl, h1⟩⟩
    · rename_i b n' v
      split at hd
      · rename_i hvw
        have := Nat.eq_of_beq_eq_true hvw
        subst this
        split at hd
        · rename_i t0 cs hbk
          split at hd
          · rename_i hc
            rw [Bool.and_eq_true] at hc
            have := Nat.eq_of_beq_eq_true hc.1
            subst this
            cases hd
            obtain ⟨r, hr, p', c', rfl, hle, ad, rfl, hcap⟩ := hs
            obtain ⟨cur, hcur, hown, _⟩ := H.obj _ _ _ hbk hr
            refine ⟨_, c', rfl, hle, .inr ⟨b, r, cs, cur, rfl, hbk, hr, Nat.le_of_ble_eq_true hc.2, rfl, hcur, hown, ?_, _, rfl⟩⟩
            rcases hcap with h0 | ⟨h0, h1⟩
            · exact .inl h0
            · right
              have h0' : ad = 0 := h0
              subst h0'
              refine ⟨by rw [Rb.ad_own hown], ?_⟩
              have := hown.1
              rcases h1 with h1 | h1
              · omega
              · have h1' : 0 + c' * i.size ≤ r.2.1 := h1
                omega
          · cases hd
        · cases hd
      · cases hd
    · cases hd
  obtain ⟨base, cap, rfl, hncap, hcase⟩ := hdst
  unfold appLit at hq
  split at hq
  · rename_i hm
    have := Nat.eq_of_beq_eq_true hm
    subst this
    cases hq
    have := T.ret_some h
    subst this
    refine Does.same H ?_ hs
    rw [hrun, run_append_none w t ty e i hu hi _ _ _ _ _ hncap]
    rfl
  · rename_i hm
    have hm0 : 0 < m := Nat.pos_of_ne_zero fun e => hm (by rw [e]; rfl)
    split at hq
    · rename_i hg
      rw [Bool.and_eq_true] at hg
      have hbound := Nat.le_of_ble_eq_true hg.1
      cases hq
      have := T.ret_some h
      subst this
      obtain ⟨ad, ns, rfl, hnl, hnr, hnc⟩ := hp hm0
      have hone : ∀ u ∈ ns, u.oneCell' = true := ones_rel hg.2 hnr
      have hslots : (s.apps (leaveW ob ++ [.new (.cells e (olds ++ news))])).slots = s.slots := by cases ob <;> rfl
      have hfit : ∀ k, k < n + m → Builtin.nextslicecap (n + m) k * i.bytes ≤ 281474976710656 := fun k hk => growslice_fits hk (by
        have : (n + m) * i.bytes ≤ 1000000 * 256 := Nat.mul_le_mul hbound hb
        omega)
      -- it grows
      have grow : cap < n + m → ∀ os : List Value, os.length = n * i.size → (Builtin.firstCells i.size n (.slice base n cap)).run P w.drew = .ok os.toArray w.drew → VRels ρ olds os → Does P w0 own ρ s a w o (.slice s.heap.length (.lit 0) (.lit (n + m)) (.un i.size), leaveW ob ++ [.new (.cells e (olds ++ news))]) := by
        intro hcap os hol hfo hor
        have hsr : Src P i.size t (.slice (some ad) m cx) m ns w := Src.ofSlice w (e' := e) hu ad m cx ns hnl (hnc w rfl) hone
        have hr := run_append_grow_src w t t ty e i z0 hu hi hz base n cap os hfo (.slice (some ad) m cx) m ns hsr hcap (by omega) (hfit cap hcap)
        have hge := grownCap_ge w (n + m) cap e
        have hsz2 : ((os ++ ns).toArray ++ Builtin.zeroCells z0.cells (grownCap w (n + m) cap e - (n + m))).size = grownCap w (n + m) cap e * i.size := by
          rw [Array.size_append, List.size_toArray, List.length_append, hol, hnl, fill_size _ _ _ hzs, ← Nat.add_mul, ← Nat.add_mul]
          congr 1
          omega
        have hpush : WR w0 own (ρ ++ [(w.heap.size, ((os ++ ns).toArray ++ Builtin.zeroCells z0.cells (grownCap w (n + m) cap e - (n + m))).size, 0)]) (s.heap ++ [.cells e (olds ++ news)])
            (w.drew.alloc (.cells ((os ++ ns).toArray ++ Builtin.zeroCells z0.cells (grownCap w (n + m) cap e - (n + m))) e (0, 0))) := by
          refine H.drew.push ⟨_, rfl, ⟨rfl, rfl⟩, ?_⟩
          have hall : VRels ρ (olds ++ news) (os ++ ns) := hor.append hnr
          have e1 : (((os ++ ns).toArray ++ Builtin.zeroCells z0.cells (grownCap w (n + m) cap e - (n + m))).toList).take (olds ++ news).length = os ++ ns := by
            rw [Array.toList_append, List.take_append_of_le_length (by rw [← hall.length]; exact Nat.le_refl _), ← hall.length]
            exact List.take_length
          rw [e1]
          exact hall.mono (Ext.push _ _)
        refine ⟨.slice (some ⟨w.heap.size, 0, none⟩) (n + m) (grownCap w (n + m) cap e), w.drew.alloc (.cells ((os ++ ns).toArray ++ Builtin.zeroCells z0.cells (grownCap w (n + m) cap e - (n + m))) e (0, 0)), ρ ++ [(w.heap.size, ((os ++ ns).toArray ++ Builtin.zeroCells z0.cells (grownCap w (n + m) cap e - (n + m))).size, 0)], .inl (by rw [hrun, hr]; rfl), Ext.push _ _, ⟨_, new_rel H _, some ⟨w.heap.size, 0, none⟩, grownCap w (n + m) cap e, rfl, hge, 0, rfl, .inr ⟨rfl, .inr ?_⟩⟩, ?_, hslots, fun e => by cases ob <;> cases e⟩
        · refine Nat.le_of_eq ?_
          show 0 + grownCap w (n + m) cap e * i.size = _
          rw [Nat.zero_add]
          exact hsz2.symm
        · rcases hcase with ⟨rfl, _⟩ | ⟨b, r, cs, cur, rfl, hbk, hr', _⟩
          · exact hpush
          · have hf := hpush.forget b
            have hbl : b < s.heap.length := (List.getElem?_eq_some_iff.1 hbk).1
            rw [List.set_append_left _ _ hbl] at hf
            exact hf
      rcases hcase with ⟨rfl, rfl, rfl, rfl⟩ | ⟨b, r, cs, cur, rfl, hbk, hr', hnle, rfl, hcur, hown, hcap, adb, rfl⟩
      · refine grow (by omega) [] (by simp) ?_ rfl
        cases base <;> simp [Builtin.firstCells, loadCells, loadCellsFrom]
      · obtain ⟨cur', hcur', _, hol, hor, hoc⟩ := cells_from (o := 0) H hbk hr' (by rw [Nat.zero_add]; exact hnle)
        rw [hcur] at hcur'
        cases hcur'
        rw [List.drop_zero] at hol hor hoc
        rw [List.drop_zero] at hor
        by_cases hroom : n + m ≤ cap
        · rcases hcap with h0 | ⟨h0, h1⟩
          · omega
          · cases h0
            have hfit2 : n * i.size + ns.length ≤ cur.size := by rw [hnl, ← Nat.add_mul]; exact Nat.le_trans (Nat.mul_le_mul_right _ hroom) h1
            have hr := run_append_room (P := P) w t ty e i hu hi r.1 n cap cur hcur ad m cx ns hnl (hnc w rfl) hone hroom hfit2
            have hturn : WR w0 own ρ (s.heap.set b (.cells e (cs.take (n * i.size) ++ news))) (w.setRow r.1 (cur.toList.take (n * i.size) ++ ns ++ cur.toList.drop (n * i.size + ns.length)).toArray) := by
              have hbl : b < s.heap.length := (List.getElem?_eq_some_iff.1 hbk).1
              refine H.turn hbk rfl hr' (by simp) (o' := .cells e (cs.take (n * i.size) ++ news)) (by simp [hbl]) (fun c hc => by rw [List.getElem?_set_ne (fun e => hc e.symm)]) ?_ (fun c hc => setRow_other w r.1 c _ hc) (by simp [World.setRow]) rfl rfl rfl
              rw [setRow_heap w r.1 cur _ e (0, 0) hcur]
              have hall : VRels ρ (cs.take (n * i.size) ++ news) (cur.toList.take (n * i.size) ++ ns) := hor.append hnr
              refine ⟨_, rfl, ⟨?_, hown.2⟩, ?_⟩
              · have := hown.1
                have h3 := hol
                rw [List.length_take] at h3
                simp only [List.size_toArray, List.length_append, List.length_take, List.length_drop, Array.length_toList]
                have h4 : cur.toList.length = cur.size := Array.length_toList
                omega
              · rw [List.take_append_of_le_length (by rw [← hall.length]; exact Nat.le_refl _), ← hall.length, List.take_length]
                exact hall
            have hbl : b < s.heap.length := (List.getElem?_eq_some_iff.1 hbk).1
            have hmv := hturn.move (b := b) (r := r) (o := .cells e (cs.take (n * i.size) ++ news)) (by simp [hbl]) hr' rfl
            rw [List.set_set] at hmv
            refine ⟨_, _, ρ ++ [r], .inl (by rw [hrun, hr]; rfl), Ext.push _ _, ⟨r, ?_, some ⟨r.1, 0, none⟩, cap, rfl, hroom, 0, by rw [Rb.ad_own hown], .inr ⟨rfl, .inr ?_⟩⟩, hmv, hslots, fun e => by cases e⟩
            · rw [← H.len]
              simp
            · have := hown.1
              show 0 + cap * i.size ≤ r.2.1
              omega
        · refine grow (by omega) _ hol ?_ hor
          rcases hcap with h0 | ⟨h0, h1⟩
          · have hn0 : n = 0 := by omega
            subst hn0
            simp [Builtin.firstCells, loadCells, loadCellsFrom]
          · cases h0
            refine run_firstCells_some (P := P) w.drew i.size n ⟨r.1, 0, none⟩ n cap _ hol fun j u hj => ?_
            have := hoc w.drew (heap_drew w) j u hj
            rwa [Rb.ad_own hown] at this
    · cases hq

theorem appSym_sound {o : Oper} {t ty e : TypeId} {i : TypeInfo} {z0 : Value} {s' x' : AV DC} {vs vx : Value} (hrun : (execOp a.eval o).run P w = ((Builtin.append_ #[t, t] ty #[vs, vx]).run P w).andThen fun v w' => .ok (.value v) w')
    (hu : P.underlying t = some (.slice e)) (hi : P.info? e = some i) (hz : i.zero = some z0) (hb : i.bytes ≤ 256) (hsz : 1 ≤ i.size) (hzs : z0.cells.size = i.size)
    (H : WR w0 own ρ s.heap w) (hs : VRel ρ s' vs) (hx : VRel ρ x' vx) {b n m : Nat} {fs : List (CK × (Nat → Int))} {news : List (AV DC)} (hd : dstS (D := DC) s.heap e i.size s' = some (b, n, m, fs)) (hsrc : srcA s.heap i.size x' = some (news, 1))
    {q : T DC (AV DC × List (W DC))} {z : AV DC × List (W DC)} (hq : appSym (D := DC) s.heap e i.size b n m fs news = some q) (h : q.pick = some z) : Does P w0 own ρ s a w o z := by
  obtain ⟨p, cx, rfl, hp⟩ := srcA_spec H hsrc hx
  obtain ⟨base, cap, r, cur, rfl, hncap, hbk, hr', hL, hcur, hown, hrows, hcap⟩ : ∃ base cap r cur, vs = .slice base n cap ∧ n ≤ cap ∧ s.heap[b]? = some (.arr e m fs) ∧ ρ[b]? = some r ∧ fs.length = i.size ∧ w.heap[r.1]? = some (.cells cur e (0, 0)) ∧ r.own cur.size ∧ RowsRel 0 m fs cur ∧ (cap = 0 ∨ (base = some ⟨r.1, 0, none⟩ ∧ cap * i.size ≤ cur.size)) := by
    unfold dstS at hd
    split at hd
    · rename_i b' len v
      split at hd
      · rename_i hvw
        have := Nat.eq_of_beq_eq_true hvw
        subst this
        split at hd
        · rename_i t0 m' fs' n' hbk hn
          split at hd
          · rename_i hc
            rw [Bool.and_eq_true] at hc
            have := Nat.eq_of_beq_eq_true hc.1
            subst this
            cases hd
            obtain ⟨r, hr, p', c', rfl, hle, ad, rfl, hcap⟩ := hs
            obtain ⟨cur, hcur, hown, hrows⟩ := H.obj _ _ _ hbk hr
            have hden : len.den = n := num_den hn
            rw [hden] at hle
            refine ⟨_, c', r, cur, by rw [hden], hle, hbk, hr, Nat.eq_of_beq_eq_true hc.2, hcur, hown, hrows, ?_⟩
            rcases hcap with h0 | ⟨h0, h1⟩
            · exact .inl h0
            · right
              have h0' : ad = 0 := h0
              subst h0'
              refine ⟨by rw [Rb.ad_own hown], ?_⟩
              have := hown.1
              rcases h1 with h1 | h1
              · omega
              · have h1' : 0 + c' * i.size ≤ r.2.1 := h1
                omega
          · cases hd
        · cases hd
      · cases hd
    · cases hd
  unfold appSym at hq
  split at hq
  · rename_i gs hgs
    split at hq
    · rename_i hg
      rw [Bool.and_eq_true] at hg
      have hnl0 := Nat.eq_of_beq_eq_true hg.1
      cases hq
      rcases T.br_some h with ⟨h1, h2⟩ | ⟨_, h2⟩
      · have := T.ret_some h2
        subst this
        have h1' : (decide (n ≤ m) && decide (n < 1000000)) = true := h1
        rw [Bool.and_eq_true] at h1'
        have hnm : n ≤ m := of_decide_eq_true h1'.1
        have hbound : n < 1000000 := of_decide_eq_true h1'.2
        obtain ⟨ad, ns, rfl, hnl, hnr, hnc⟩ := hp (by omega)
        have hone : ∀ u ∈ ns, u.oneCell' = true := ones_rel hg.2 hnr
        have hgl := (setRow_len _ _ _ _ hgs).1
        have hslots : (s.apps [.obj b .gone, .new (.arr e (DC.nadd n (DC.nlit 1)) gs)]).slots = s.slots := rfl
        have hden : (AN.rc (D := DC) (DC.nadd n (DC.nlit 1)) 1 0).den = n + 1 := by
          show (n + 1) * 1 + 0 = n + 1
          omega
        -- the cells that are there
        have hfit0 : n * i.size ≤ cur.size := by
          rcases Nat.eq_zero_or_pos n with h0 | h0
          · subst h0; omega
          · have hk : fs[i.size - 1]? = some fs[i.size - 1] := List.getElem?_eq_getElem (by omega)
            have := hrows (n - 1) (i.size - 1) _ _ (by omega) hk
            have hlt := (Array.getElem?_eq_some_iff.1 this).1
            rw [hL, Nat.zero_add] at hlt
            have e2 : (n - 1) * i.size + i.size = n * i.size := by rw [← Nat.succ_mul]; congr 1; omega
            omega
        have hol : (cur.toList.take (n * i.size)).length = n * i.size := by
          rw [List.length_take, Array.length_toList]
          omega
        have new : ∀ zs : List Value, RowsRel 0 (n + 1) gs (cur.toList.take (n * i.size) ++ ns ++ zs).toArray := by
          intro zs j c k g hj hc
          obtain ⟨f, f1, f2, _, f4⟩ := setRow_spec _ _ _ _ _ hgs hnr c k g hc
          have hcl : c < i.size := by rw [← hL, ← hgl]; exact (List.getElem?_eq_some_iff.1 hc).1
          rw [Nat.zero_add, hgl, hL, List.getElem?_toArray, List.append_assoc]
          rcases Nat.lt_or_ge j n with hjn | hjn
          · have hidx : j * i.size + c < n * i.size := by
              have : (j + 1) * i.size ≤ n * i.size := Nat.mul_le_mul_right _ hjn
              rw [Nat.add_mul] at this
              omega
            rw [List.getElem?_append_left (by rw [hol]; exact hidx), List.getElem?_take, if_pos hidx, f2 j (by omega)]
            have := hrows j c k f (by omega) f1
            rw [Nat.zero_add, hL] at this
            simpa using this
          · have hjn' : j = n := by omega
            subst hjn'
            rw [List.getElem?_append_right (by rw [hol]; omega), hol, Nat.add_sub_cancel_left, List.getElem?_append_left (by omega)]
            have := f4 (Nat.zero_le _) (by omega)
            simpa using this
        have hoc : ∀ w' : World, w'.heap = w.heap → ∀ (j : Nat) u, (cur.toList.take (n * i.size))[j]? = some u → w'.cell? ((⟨r.1, 0, none⟩ : Addr).add j) = some u := by
          intro w' hw j u hj
          rw [List.getElem?_take] at hj
          split at hj
          · rw [Addr.add_lit, cell_of_row w' r.1 (0 + j) cur e (0, 0) (by rw [hw]; exact hcur)]
            simpa using hj
          · cases hj
        by_cases hroom : n + 1 ≤ cap
        · rcases hcap with h0 | ⟨rfl, h1⟩
          · omega
          · have hfit2 : n * i.size + ns.length ≤ cur.size := by rw [hnl, ← Nat.add_mul]; exact Nat.le_trans (Nat.mul_le_mul_right _ hroom) h1
            have hr := run_append_room (P := P) w t ty e i hu hi r.1 n cap cur hcur ad 1 cx ns hnl (hnc w rfl) hone hroom hfit2
            have hturn : WR w0 own ρ (s.heap.set b (.arr e (n + 1 : Nat) gs)) (w.setRow r.1 (cur.toList.take (n * i.size) ++ ns ++ cur.toList.drop (n * i.size + ns.length)).toArray) := by
              have hbl : b < s.heap.length := (List.getElem?_eq_some_iff.1 hbk).1
              refine H.turn hbk rfl hr' (by simp) (o' := .arr e (n + 1 : Nat) gs) (by simp [hbl]) (fun c hc => by rw [List.getElem?_set_ne (fun e => hc e.symm)]) ?_ (fun c hc => setRow_other w r.1 c _ hc) (by simp [World.setRow]) rfl rfl rfl
              rw [setRow_heap w r.1 cur _ e (0, 0) hcur]
              refine ⟨_, rfl, ⟨?_, hown.2⟩, new _⟩
              have := hown.1
              have h3 := hol
              rw [List.length_take] at h3
              simp only [List.size_toArray, List.length_append, List.length_take, List.length_drop, Array.length_toList]
              have h4 : cur.toList.length = cur.size := Array.length_toList
              omega
            have hbl : b < s.heap.length := (List.getElem?_eq_some_iff.1 hbk).1
            have hmv := hturn.move (b := b) (r := r) (o := .arr e (n + 1 : Nat) gs) (by simp [hbl]) hr' rfl
            rw [List.set_set] at hmv
            refine ⟨_, _, ρ ++ [r], .inl (by rw [hrun, hr]; rfl), Ext.push _ _, ⟨r, ?_, some ⟨r.1, 0, none⟩, cap, by rw [hden], by rw [hden]; exact hroom, 0, by rw [Rb.ad_own hown], .inr ⟨rfl, .inr ?_⟩⟩, hmv, hslots, fun e => by cases e⟩
            · rw [← H.len]
              simp
            · have := hown.1
              show 0 + cap * i.size ≤ r.2.1
              omega
        · have hfo : (Builtin.firstCells i.size n (.slice base n cap)).run P w.drew = .ok (cur.toList.take (n * i.size)).toArray w.drew := by
            rcases hcap with h0 | ⟨rfl, h1⟩
            · have hn0 : n = 0 := by omega
              subst hn0
              cases base <;> simp [Builtin.firstCells, loadCells, loadCellsFrom]
            · exact run_firstCells_some (P := P) w.drew i.size n ⟨r.1, 0, none⟩ n cap _ hol fun j u hj => hoc w.drew (heap_drew w) j u hj
          have hsr : Src P i.size t (.slice (some ad) 1 cx) 1 ns w := Src.ofSlice w (e' := e) hu ad 1 cx ns hnl (hnc w rfl) hone
          have hfit : Builtin.nextslicecap (n + 1) cap * i.bytes ≤ 281474976710656 := growslice_fits (by omega) (by
            have : (n + 1) * i.bytes ≤ 1000000 * 256 := Nat.mul_le_mul (by omega) hb
            omega)
          have hr := run_append_grow_src w t t ty e i z0 hu hi hz base n cap _ hfo (.slice (some ad) 1 cx) 1 ns hsr (by omega) (by omega) hfit
          have hge := grownCap_ge w (n + 1) cap e
          have hsz2 : ((cur.toList.take (n * i.size) ++ ns).toArray ++ Builtin.zeroCells z0.cells (grownCap w (n + 1) cap e - (n + 1))).size = grownCap w (n + 1) cap e * i.size := by
            rw [Array.size_append, List.size_toArray, List.length_append, hol, hnl, fill_size _ _ _ hzs, ← Nat.add_mul, ← Nat.add_mul]
            congr 1
            omega
          have hpush : WR w0 own (ρ ++ [(w.heap.size, ((cur.toList.take (n * i.size) ++ ns).toArray ++ Builtin.zeroCells z0.cells (grownCap w (n + 1) cap e - (n + 1))).size, 0)]) (s.heap ++ [.arr e (n + 1 : Nat) gs])
              (w.drew.alloc (.cells ((cur.toList.take (n * i.size) ++ ns).toArray ++ Builtin.zeroCells z0.cells (grownCap w (n + 1) cap e - (n + 1))) e (0, 0))) := by
            refine H.drew.push ⟨_, rfl, ⟨rfl, rfl⟩, ?_⟩
            have := new (Builtin.zeroCells z0.cells (grownCap w (n + 1) cap e - (n + 1))).toList
            have e0 : (cur.toList.take (n * i.size) ++ ns).toArray ++ Builtin.zeroCells z0.cells (grownCap w (n + 1) cap e - (n + 1)) = (cur.toList.take (n * i.size) ++ ns ++ (Builtin.zeroCells z0.cells (grownCap w (n + 1) cap e - (n + 1))).toList).toArray := by
              apply Array.ext'
              simp
            rw [e0]
            exact this
          refine ⟨.slice (some ⟨w.heap.size, 0, none⟩) (n + 1) (grownCap w (n + 1) cap e), _, ρ ++ [(w.heap.size, ((cur.toList.take (n * i.size) ++ ns).toArray ++ Builtin.zeroCells z0.cells (grownCap w (n + 1) cap e - (n + 1))).size, 0)], .inl (by rw [hrun, hr]; rfl), Ext.push _ _, ⟨_, new_rel H _, some ⟨w.heap.size, 0, none⟩, grownCap w (n + 1) cap e, by rw [hden], by rw [hden]; exact hge, 0, rfl, .inr ⟨rfl, .inr ?_⟩⟩, ?_, hslots, fun e => by cases e⟩
          · refine Nat.le_of_eq ?_
            show 0 + grownCap w (n + 1) cap e * i.size = _
            rw [Nat.zero_add]
            exact hsz2.symm
          · have hf := hpush.forget b
            have hbl : b < s.heap.length := (List.getElem?_eq_some_iff.1 hbk).1
            rw [List.set_append_left _ _ hbl] at hf
            exact hf
      · cases h2
    · cases hq
  · cases hq
theorem dst_none {h : List (AO DC)} {e : TypeId} {k : Nat} {x : AV DC} {v : Value} {n : Nat} {olds : List (AV DC)} (hd : dstA h e k x = some (none, n, olds)) (hv : VRel ρ x v) : ∃ base, v = .slice base 0 0 := by
  unfold dstA at hd
  split at hd
  · exact ⟨none, hv⟩
  · obtain ⟨r, _, p', c', rfl, h1, _⟩ := hv
    exact ⟨p', by rw [h1]; rfl⟩
  · obtain ⟨r, _, p', c', rfl, h1, _⟩ := hv
    exact ⟨p', by rw [h1]; rfl⟩
  · split at hd
    · split at hd
      · split at hd
        · cases hd
        · cases hd
      · cases hd
    · cases hd
  · cases hd
theorem numsA_spec {h : List (AO DC)} (H : WR w0 own ρ h w) {k : IntKind} {x : AV DC} {v : Value} {n y m : Nat} {f : Nat → Int} (hx : numsA (D := DC) h k x = some (n, f, y, m)) (hv : VRel ρ x v) :
    ∃ p c, v = .slice p m c ∧ (y + m ≤ n → 0 < m → ∃ ad, p = some ad ∧ ∀ w' : World, w'.heap = w.heap → ∀ j, j < m → w'.cell? (ad.add j) = some (.int k (f (y + j)))) := by
  unfold numsA at hx
  split at hx
  · rename_i b off len cap
    split at hx
    · rename_i n' k' f' x' m' hro hra hl
      split at hx
      · rename_i hk
        have hk' : k' = k := of_decide_eq_true hk
        subst hk'
        cases hx
        obtain ⟨r, hr, p, c, hval, hp⟩ := hv
        have hden : len.den = (m : Nat) := num_den hl
        refine ⟨p, c, by rw [hval, hden], fun hle hm => ?_⟩
        have hpos : 0 < len.den := by rw [hden]; exact hm
        obtain ⟨vs, t0, fz, hvs, hcell⟩ := rowsOf_rel H hro (by omega) hr
        refine ⟨_, hp.at hpos, fun w' hw j hj => ?_⟩
        have ho : off.den = y * 1 + 0 := rowAt_den hra
        rw [Rb.ad, Addr.add_lit, cell_of_row w' r.1 _ vs t0 fz (by rw [hw]; exact hvs), ho]
        have := hcell (y + j) 0 _ _ (by omega) rfl
        rw [show r.2.2 + (y * 1 + 0) + j = r.2.2 + ((y + j) * 1 + 0) by omega]
        exact this
      · cases hx
    · cases hx
  · cases hx
theorem appNum_sound {o : Oper} {t ty e : TypeId} {i : TypeInfo} {k : IntKind} {s' x' : AV DC} {vs vx : Value} (hrun : (execOp a.eval o).run P w = ((Builtin.append_ #[t, t] ty #[vs, vx]).run P w).andThen fun v w' => .ok (.value v) w')
    (hu : P.underlying t = some (.slice e)) (hi : P.info? e = some i) (hz : i.zero = some (.int k 0)) (hb : i.bytes ≤ 256) (hsz : i.size = 1)
    (H : WR w0 own ρ s.heap w) (hs : VRel ρ s' vs) (hx : VRel ρ x' vx) {n0 : Nat} {olds : List (AV DC)} (hd : dstA s.heap e i.size s' = some (none, n0, olds)) {n y m : Nat} {f : Nat → Int} (hsrc : numsA (D := DC) s.heap k x' = some (n, f, y, m))
    {z : AV DC × List (W DC)} (h : (appNum (D := DC) s.heap e k n f y m).pick = some z) : Does P w0 own ρ s a w o z := by
  obtain ⟨base, rfl⟩ := dst_none hd hs
  obtain ⟨p, cx, rfl, hp⟩ := numsA_spec H hsrc hx
  rcases T.br_some h with ⟨h1, h2⟩ | ⟨_, h2⟩
  · have := T.ret_some h2
    subst this
    have h1' : (decide (y + m ≤ n) && decide (m < 16777216)) = true := h1
    rw [Bool.and_eq_true] at h1'
    have hle : y + m ≤ n := of_decide_eq_true h1'.1
    have hm2 : m < 16777216 := of_decide_eq_true h1'.2
    have hden : (AN.rc (D := DC) m 1 0).den = m := by
      show m * 1 + 0 = m
      omega
    by_cases hm : m = 0
    · subst hm
      refine ⟨.slice base 0 0, w, ρ ++ [(w.heap.size, 0, 0)], .inl (by rw [hrun, run_append_none w t ty e i hu hi _ _ _ _ _ (Nat.le_refl _)]; rfl), Ext.push _ _, ⟨_, new_rel H 0, base, 0, rfl, by rw [hden]; exact Nat.le_refl _, fun h0 => absurd h0 (by rw [hden]; decide)⟩, ?_, rfl, fun e => by cases e⟩
      exact H.unreal _ (o := .rows e (0 : Nat) _) (fun h0 => absurd h0 (Nat.lt_irrefl 0)) rfl
    · have hm0 : 0 < m := Nat.pos_of_ne_zero hm
      obtain ⟨ad, rfl, hc⟩ := hp hle hm0
      have hnl : ((List.range m).map fun j => Value.int k (f (y + j))).length = m * i.size := by rw [hsz]; simp
      have hcell : ∀ w' : World, w'.heap = w.heap → ∀ (j : Nat) u, ((List.range m).map fun j => Value.int k (f (y + j)))[j]? = some u → w'.cell? (ad.add j) = some u := by
        intro w' hw j u hj
        rcases Nat.lt_or_ge j m with hjm | hjm
        · rw [List.getElem?_map, List.getElem?_range hjm] at hj
          cases hj
          exact hc w' hw j hjm
        · rw [List.getElem?_eq_none (by simpa using hjm)] at hj
          cases hj
      have hone : ∀ u ∈ ((List.range m).map fun j => Value.int k (f (y + j))), u.oneCell' = true := by
        intro u hu
        obtain ⟨j, _, rfl⟩ := List.mem_map.1 hu
        rfl
      have hsr : Src P i.size t (.slice (some ad) m cx) m _ w := Src.ofSlice w (e' := e) hu ad m cx _ hnl (hcell w rfl) hone
      have hfit : Builtin.nextslicecap (0 + m) 0 * i.bytes ≤ 281474976710656 := growslice_fits (by omega) (by
        have : (0 + m) * i.bytes ≤ 16777216 * 256 := Nat.mul_le_mul (by omega) hb
        omega)
      have hr := run_append_grow_src w t t ty e i (.int k 0) hu hi hz base 0 0 [] (by cases base <;> simp [Builtin.firstCells, loadCells, loadCellsFrom]) (.slice (some ad) m cx) m _ hsr (by omega) (by omega) hfit
      rw [Nat.zero_add, List.nil_append] at hr
      refine ⟨.slice (some ⟨w.heap.size, 0, none⟩) m (grownCap w m 0 e), w.drew.alloc (.cells ((((List.range m).map fun j => Value.int k (f (y + j))).toArray) ++ Builtin.zeroCells (Value.int k 0).cells (grownCap w m 0 e - m)) e (0, 0)), ρ ++ [(w.heap.size, ((((List.range m).map fun j => Value.int k (f (y + j))).toArray) ++ Builtin.zeroCells (Value.int k 0).cells (grownCap w m 0 e - m)).size, 0)], .inl (by rw [hrun, hr]; rfl), Ext.push _ _, ⟨_, new_rel H _, some ⟨w.heap.size, 0, none⟩, grownCap w m 0 e, by rw [hden], by rw [hden]; exact grownCap_ge w m 0 e, fun _ => rfl⟩, ?_, rfl, fun e => by cases e⟩
      refine H.drew.push fun _ => ⟨_, e, (0, 0), rfl, ?_⟩
      intro j c kk g hj hg
      cases c with
      | zero =>
        simp only [List.getElem?_cons_zero, Option.some.injEq, Prod.mk.injEq] at hg
        obtain ⟨rfl, rfl⟩ := hg
        have hj' : j < m := hj
        show (((((List.range m).map fun j => Value.int k (f (y + j))).toArray) ++ Builtin.zeroCells (Value.int k 0).cells (grownCap w m 0 e - m)))[0 + (j * 1 + 0)]? = some (Value.int k (if 0 ≤ j ∧ j < 0 + m then f (y + (j - 0)) else 0))
        rw [show 0 + (j * 1 + 0) = j by omega, Array.getElem?_append_left (by simp [hj']), if_pos ⟨Nat.zero_le _, by omega⟩, Nat.sub_zero]
        simp [hj']
      | succ c => simp at hg
  · cases h2

theorem sstr_eq {f g : Nat → Int} {o q n m : Nat} {u v : ByteArray} (hu : SStr f o n u) (hv : SStr g q m v) : decide (u = v) = (decide (n = m) && (List.range n).all fun i => f (o + i) == g (q + i)) := by
  obtain ⟨hu1, hu2⟩ := hu
  obtain ⟨hv1, hv2⟩ := hv
  subst hu1
  subst hv1
  by_cases hs : u.size = v.size
  · rw [decide_eq_true hs, Bool.true_and]
    by_cases h : ((List.range u.size).all fun i => f (o + i) == g (q + i)) = true
    · rw [h]
      refine decide_eq_true (ByteArray.ext_getElem hs fun i h1 h2 => ?_)
      have := List.all_eq_true.1 h i (List.mem_range.2 h1)
      have e := eq_of_beq this
      rw [← hu2 i h1, ← hv2 i h2] at e
      exact UInt8.toNat_inj.1 (Int.ofNat.inj e)
    · rw [Bool.not_eq_true] at h
      rw [h]
      refine decide_eq_false fun e => ?_
      subst e
      have : ((List.range u.size).all fun i => f (o + i) == g (q + i)) = true := List.all_eq_true.2 fun i hi => by
        have hi' := List.mem_range.1 hi
        rw [← hu2 i hi', ← hv2 i hi']
        exact beq_self_eq_true _
      rw [this] at h
      cases h
  · rw [decide_eq_false hs, Bool.false_and]
    exact decide_eq_false fun e => hs (by rw [e])
theorem eqStr_sound {op : BinOp} {neg : Bool} {o : Oper} {t : TypeId} {x y : Operand} {r0 : TypeId} (ho : o.op = .binOp op t x y r0) (hop : op = bif neg then .neq else .eql) (hu : P.underlying t = some .string) (hS : RS ρ s.slots a) (H : WR w0 own ρ s.heap w)
    {q : T DC (AV DC × List (W DC))} {z : AV DC × List (W DC)} (hq : eqStr (D := DC) neg (evalA s.slots x) (evalA s.slots y) = some q) (h : q.pick = some z) : Does P w0 own ρ s a w o z := by
  have hx := evalA_rel hS x
  have hy := evalA_rel hS y
  unfold eqStr at hq
  split at hq
  · rename_i f o1 n g q1 m h1 h2
    cases hq
    have := T.ret_some h
    subst this
    rw [h1] at hx
    rw [h2] at hy
    obtain ⟨u, hu1, hu2⟩ := hx
    obtain ⟨v, hv1, hv2⟩ := hy
    have e := sstr_eq hu2 hv2
    refine does_value H (sem := do eqGuard op t x y (a.eval x) (a.eval y); binOp op t (a.eval x) (a.eval y)) (by simp only [execOp, ho]) ⟨rfl, .bool (bif neg then !(decide (u = v)) else decide (u = v)), ?_, ?_⟩
    · rw [hu1, hv1, hop]
      cases neg
      · simp only [eqGuard_at_string, Sem.run_bind, Sem.run_pure, Result.andThen_ok, cond_false]
        simp [binOp, Op.stringOp, bytes_beq]
      · simp only [eqGuard_at_string, Sem.run_bind, Sem.run_pure, Result.andThen_ok, cond_true]
        simp [binOp, Op.stringOp, bytes_beq]
    · rw [e]
      cases neg <;> rfl
  · cases hq
theorem strA_sound {o : Oper} {ta tb : TypeId} {x : Operand} (ho : o.op = .convert ta tb x) (hS : RS ρ s.slots a) (H : WR w0 own ρ s.heap w)
    {q : T DC (AV DC × List (W DC))} {z : AV DC × List (W DC)} (hq : strA (D := DC) P s.heap ta tb (evalA s.slots x) = some q) (h : q.pick = some z) : Does P w0 own ρ s a w o z := by
  have hx := evalA_rel hS x
  unfold strA at hq
  split at hq
  · rename_i e hua hub
    split at hq
    · rename_i hue
      split at hq
      · rename_i n f y m hn
        cases hq
        obtain ⟨p, c, hval, hp⟩ := numsA_spec H hn hx
        rcases T.br_some h with ⟨h1, h2⟩ | ⟨_, h2⟩
        · have := T.ret_some h2
          subst this
          have hle : y + m ≤ n := of_decide_eq_true h1
          have hload : ∀ ad, p = some ad → (loadCells ad m).run P w = .ok (((List.range m).map fun j => f (y + j)).map (Value.int .u8)).toArray w := by
            intro ad hpa
            have hc : ∀ (j : Nat) v, (((List.range m).map fun j => f (y + j)).map (Value.int .u8))[j]? = some v → w.cell? (ad.add j) = some v := by
              intro j v hj
              rcases Nat.lt_or_ge j m with hjm | hjm
              · rw [List.getElem?_map, List.getElem?_map, List.getElem?_range hjm] at hj
                cases hj
                obtain ⟨ad', e', hc⟩ := hp hle (by omega)
                rw [hpa] at e'
                cases e'
                exact hc w rfl j hjm
              · rw [List.getElem?_eq_none (by simpa using hjm)] at hj
                cases hj
            have := run_loadCells_list (P := P) w ad _ hc
            simpa using this
          have hstr : (convert ta tb (a.eval x)).run P w = .ok (.string (((List.range m).map fun j => f (y + j)).foldl (fun r n => r.push (UInt8.ofNat n.toNat)) ByteArray.empty)) w := by
            rw [hval, run_convert_bytes_string w ta tb e p m c hua hue hub]
            cases p with
            | none =>
              have hm : m = 0 := by
                rcases Nat.eq_zero_or_pos m with h0 | h0
                · exact h0
                · obtain ⟨ad, e', _⟩ := hp hle h0
                  cases e'
              subst hm
              rfl
            | some ad => exact run_bytesToString w ad m c _ (hload ad rfl)
          refine does_value H (sem := convert ta tb (a.eval x)) (by simp only [execOp, ho]) ⟨rfl, _, hstr, _, rfl, ?_⟩
          rw [foldl_push_bytes]
          have hsz : (⟨ByteArray.empty.data ++ (((List.range m).map fun j => f (y + j)).map fun n => UInt8.ofNat n.toNat).toArray⟩ : ByteArray).size = m := by
            simp [ByteArray.size]
          refine ⟨hsz, fun i hi => ?_⟩
          have hi' : i < m := by rw [hsz] at hi; exact hi
          show (((ByteArray.empty.data ++ (((List.range m).map fun j => f (y + j)).map fun n => UInt8.ofNat n.toNat).toArray)[i]'hi).toNat : Int) = (((f (y + i)).toNat % 256 : Nat) : Int)
          simp [hi']
        · cases h2
      · cases hq
    · cases hq
  · cases hq
theorem appA_sound {o : Oper} {t tx ty : TypeId} {s' x' : AV DC} {vs vx : Value} (hrun : (execOp a.eval o).run P w = ((Builtin.append_ #[t, tx] ty #[vs, vx]).run P w).andThen fun v w' => .ok (.value v) w')
    (H : WR w0 own ρ s.heap w) (hs : VRel ρ s' vs) (hx : VRel ρ x' vx)
    {q : T DC (AV DC × List (W DC))} {z : AV DC × List (W DC)} (hq : appA (D := DC) P s.heap t tx s' x' = some q) (h : q.pick = some z) : Does P w0 own ρ s a w o z := by
  unfold appA at hq
  split at hq
  · rename_i e hu
    split at hq
    · rename_i i hi
      split at hq
      · rename_i z0 hz
        split at hq
        · rename_i hg
          simp only [Bool.and_eq_true] at hg
          obtain ⟨g1, g2, g3, g4⟩ := hg
          have := Nat.eq_of_beq_eq_true g1
          subst this
          split at hq
          · rename_i ob n olds hd
            split at hq
            · rename_i news m hsrc
              exact appLit_sound hrun hu hi hz (Nat.le_of_ble_eq_true g2) (Nat.le_of_ble_eq_true g3) (Nat.eq_of_beq_eq_true g4) H hs hx hd hsrc hq h
            · split at hq
              · rename_i k
                split at hq
                · rename_i c f y m hn
                  split at hq
                  · rename_i h1
                    cases hq
                    exact appNum_sound hrun hu hi hz (Nat.le_of_ble_eq_true g2) (Nat.eq_of_beq_eq_true h1) H hs hx hd hn h
                  · cases hq
                · cases hq
              · cases hq
          · split at hq
            · rename_i b n m fs news hd hsrc
              exact appSym_sound hrun hu hi hz (Nat.le_of_ble_eq_true g2) (Nat.le_of_ble_eq_true g3) (Nat.eq_of_beq_eq_true g4) H hs hx hd hsrc hq h
            · cases hq
        · cases hq
      · cases hq
    · cases hq
  · cases hq
theorem appX_sound {o : Oper} {t : T DC (AV DC × List (W DC))} {z : AV DC × List (W DC)} (ho : appX P o s = some t) (h : t.pick = some z) (hS : RS ρ s.slots a) (H : WR w0 own ρ s.heap w) : Does P w0 own ρ s a w o z := by
  unfold appX at ho
  split at ho
  · rename_i t0 x lo hi mx hop
    exact zeroCut_sound hop hS H ho h
  · rename_i c hop
    split at ho
    · rename_i a1 x1 t1 tx1 hc ha ht
      obtain ⟨cal, args, ats⟩ := c
      have ha' : args = #[a1, x1] := Array.ext' ha
      have ht' : ats = #[t1, tx1] := Array.ext' ht
      have hc' : cal = .builtin .append := hc
      subst ha' ht' hc'
      refine appA_sound (ty := o.type) ?_ H (evalA_rel hS a1) (evalA_rel hS x1) ho h
      simp [execOp, hop, resolve, invoke, builtin]
    · cases ho
  · rename_i ta tb x hop
    exact strA_sound hop hS H ho h
  · rename_i op t0 x y r0 hop
    split at ho
    · rename_i hu
      exact eqStr_sound (neg := false) hop rfl hu hS H ho h
    · rename_i hu
      exact eqStr_sound (neg := true) hop rfl hu hS H ho h
    · cases ho
  · cases ho

/-- A comparison at a place, asked, its answer a literal one. -/
def askX {D : Dom} (P : Program) (at' : Oper → Bool) (b : Bool) (o : Oper) (s : St D) : Option (T D (AV D × List (W D))) := if at' o then (match o.op with
  | .binOp op t x y _ => match binA P op t (evalA s.slots x) (evalA s.slots y) with
    | .ret (.bool (.sym q)) => some (.br (bif b then q else D.not q) (.ret (.bool (.lit b), [])) .fail)
    | _ => none
  | _ => none) else none
theorem askX_sound {at' : Oper → Bool} {b : Bool} {o : Oper} {t : T DC (AV DC × List (W DC))} {z : AV DC × List (W DC)} (ho : askX (D := DC) P at' b o s = some t) (h : t.pick = some z) (hS : RS ρ s.slots a) (H : WR w0 own ρ s.heap w) : Does P w0 own ρ s a w o z := by
  unfold askX at ho
  split at ho
  · split at ho
    · rename_i op ty x y r0 hop
      split at ho
      · rename_i q hq
        cases ho
        rcases T.br_some h with ⟨h1, h2⟩ | ⟨_, h2⟩
        · have := T.ret_some h2
          subst this
          have hd : Does P w0 own ρ s a w o (.bool (.sym q), []) := opA_sound hS H (by simp only [opA, hop, hq]; rfl)
          obtain ⟨v, w', ρ', g1, g2, g3, g4, g5, g6⟩ := hd
          refine ⟨v, w', ρ', g1, g2, ?_, g4, g5, g6⟩
          have hv : v = .bool q := g3
          have hqb : q = b := by
            cases b
            · have h1' : (!(q : Bool)) = true := h1
              simpa using h1'
            · exact h1
          show v = .bool b
          rw [hv, hqb]
        · cases h2
      · cases ho
    · cases ho
  · cases ho
end
theorem Ok.ask {P : Program} {X : Cx DC} (hX : Ok P X) (q : Oper → Bool) (b : Bool) : Ok P (X.more (askX P q b)) := hX.more fun o s t z ho h w0 own ρ a w hS H => askX_sound ho h hS H
end Go.Proofs.Ytngcbpcfgolifaa.Ev
