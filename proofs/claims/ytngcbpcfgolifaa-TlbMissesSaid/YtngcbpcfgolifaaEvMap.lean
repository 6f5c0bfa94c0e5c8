/- Slices that are written out, and maps of whole numbers. Conditions: none. -/
import Derived.Test.YtngcbpcfgolifaaEvTmpl
namespace Go.Proofs.Ytngcbpcfgolifaa.Ev
open Go.RowKit
set_option linter.unusedVariables false
set_option linter.unusedSimpArgs false

section
variable {D : Dom} (P : Program)
def deads : Nat → List (AV D)
  | 0 => []
  | n + 1 => .dead :: deads n
def buildSliceA (n0 : Nat) (t : TypeId) (len : Nat) (parts : List (Nat × AV D)) : T D (AV D × List (W D)) :=
  match P.underlying t with
  | some (.slice e) => (match sizeT P e, (zeroT P e : Option (AV D)) with
    | some sz, some _ => if Nat.ble (len * sz) 16777216 then (match fillA (fun i => some (i * sz, sz)) (deads (len * sz)) parts with
      | some l => .ret (.slice n0 (.lit 0) (.lit len) (.kn (.lit len)), [.new (.cells e l)])
      | none => .fail) else .fail
    | _, _ => .fail)
  | _ => .fail

/-- Is a number among literal keys? -/
def keyIn (k : IntKind) (n : Int) : List (AV D) → Option Bool
  | [] => some false
  | .int k' (.lit m) :: l => if decide (k = k') then (if decide (n = m) then some true else keyIn k n l) else none
  | _ => none
def insertA (h : List (AO D)) (t : TypeId) (m k v : AV D) : T D (AV D × List (W D)) :=
  match P.underlying t, m, k with
  | some (.map kt _), .map b, .int kk (.lit n) => (match P.underlying kt, h[b]? with
    | some (.int k0), some (.map ks vs) => if decide (kk = k0) then (match keyIn kk n ks with
      | some false => .ret (.undef, [.obj b (.map (ks ++ [k]) (vs ++ [v]))])
      | _ => .fail) else .fail
    | _, _ => .fail)
  | _, _, _ => .fail

/-- By a number: the value of the one key that is it, or the last one. -/
def pickKey (k : IntKind) (a : AI D) (f : AV D → Bool → AV D) (z : AV D) : List (AV D) → List (AV D) → T D (AV D × List (W D))
  | .int k' (.lit m) :: ks, v :: vs => if decide (k = k') then (match a with
    | .lit n => if decide (n = m) then .ret (f v true, []) else pickKey k a f z ks vs
    | .sym y => .br (D.cmp .eql y (D.num m)) (.ret (f v true, [])) (pickKey k a f z ks vs)) else .fail
  | [], [] => .ret (f z false, [])
  | _, _ => .fail
def okPair (commaOk : Bool) (v : AV D) (ok : Bool) : AV D := match commaOk with
  | true => .tuple [v, .bool (.lit ok)]
  | false => v
def lookupA (h : List (AO D)) (t : TypeId) (x i : AV D) (commaOk : Bool) : T D (AV D × List (W D)) :=
  match P.underlying t, x, i with
  | some (.map kt e), .map b, .int k a => (match P.underlying kt, h[b]?, (zeroT P e : Option (AV D)) with
    | some (.int k0), some (.map ks vs), some z => if decide (k = k0) then pickKey k a (okPair commaOk) z ks vs else .fail
    | _, _, _ => .fail)
  | _, _, _ => .fail

def mapX (o : Oper) (s : St D) : Option (T D (AV D × List (W D))) :=
  let ρ := evalA s.slots
  match o.op with
  | .buildSlice t n parts => some (buildSliceA P s.heap.length t n (parts.toList.map fun p => (p.1, ρ p.2)))
  | .makeMap _ none => some (.ret (.map s.heap.length, [.new (.map [] [])]))
  | .insert t m k v => some (insertA P s.heap t (ρ m) (ρ k) (ρ v))
  | .lookup t x i c => some (lookupA P s.heap t (ρ x) (ρ i) c)
  | _ => none
end

section
variable {P : Program} {ρ : List Rb} {w0 w : World} {own : List Nat} {s : St DC} {a : Act}

theorem deads_rel : ∀ (n : Nat) (l : List Value), l.length = n → VRels ρ (deads n) l
  | 0, l, h => by
    have : l = [] := List.eq_nil_of_length_eq_zero h
    subst this
    rfl
  | n + 1, [], h => by simp at h
  | n + 1, v :: l, h => ⟨v, l, rfl, trivial, deads_rel n l (by simpa using h)⟩

theorem new_rel (H : WR w0 own ρ s.heap w) (sz : Nat) : (ρ ++ [(w.heap.size, sz, 0)])[s.heap.length]? = some (w.heap.size, sz, 0) := by
  rw [← H.len, List.getElem?_append_right (Nat.le_refl _)]
  simp

theorem buildSliceA_sound {o : Oper} {t : TypeId} {n : Nat} {parts : Array (Nat × Operand)} {z : AV DC × List (W DC)} (ho : o.op = .buildSlice t n parts) (hS : RS ρ s.slots a) (H : WR w0 own ρ s.heap w)
    (h : (buildSliceA P s.heap.length t n (parts.toList.map fun p => (p.1, evalA s.slots p.2))).pick = some z) : Does P w0 own ρ s a w o z := by
  unfold buildSliceA at h
  split at h
  · rename_i e hu
    split at h
    · rename_i sz z0 hs hz
      obtain ⟨v0, hv0, _⟩ := run_zeroT (P := P) hz w
      split at h
      · rename_i hle
        have hle := Nat.le_of_ble_eq_true hle
        split at h
        · rename_i l hf
          have := T.ret_some h
          subst this
          have hbase : ∀ zc : Array Value, VRels ρ (deads (n * sz)) ((Array.range (n * sz)).map fun i => zc[i % zc.size]!).toList := fun zc => deads_rel _ _ (by simp)
          have hq := evalA_map hS (parts.toList.map (·.2))
          have run : ∀ zc : Array Value, ∃ vs, Instr.fill (fun i => some (i * sz, sz)) ((Array.range (n * sz)).map fun i => zc[i % zc.size]!) (parts.toList.map fun p => (p.1, a.eval p.2)) = some vs ∧ VRels ρ l vs.toList := fun zc =>
            fill_rel _ _ _ _ l hf (hbase zc) (by simp [Function.comp_def]) (by simpa [Function.comp_def] using hq)
          have key : ∃ vs : Array Value, VRels ρ l vs.toList ∧ (Instr.buildSlice t n (parts.map fun p => (p.1, a.eval p.2))).run P w = .ok (.slice (some ⟨w.heap.size, 0, none⟩) n n) (w.alloc (.cells vs e (0, 0))) := by
            have hnot : ¬ n * sz > 2 ^ 24 := by omega
            have hlist : (parts.map fun p => (p.1, a.eval p.2)).toList = parts.toList.map fun p => (p.1, a.eval p.2) := by simp
            by_cases h0 : n * sz = 0
            · obtain ⟨vs, h1, h2⟩ := run #[]
              refine ⟨vs, h2, ?_⟩
              have hr : ∀ f : Nat → Value, Array.map f (Array.range (n * sz)) = #[] := fun f => by rw [h0]; simp
              rw [hr] at h1
              have hr0 : ∀ f : Nat → Value, Array.map f (Array.range 0) = #[] := fun f => by simp
              simp only [Instr.buildSlice, Sem.run_bind, run_underlying hu, Result.andThen_ok, run_sizeT hs, h0, (by omega : ¬ (0 : Nat) > 2 ^ 24), if_false, if_true, Sem.run_pure, hlist, hr0, h1]
              simp [newRow]
            · obtain ⟨vs, h1, h2⟩ := run v0.cells
              refine ⟨vs, h2, ?_⟩
              simp only [Instr.buildSlice, Sem.run_bind, run_underlying hu, Result.andThen_ok, run_sizeT hs, hnot, h0, if_false, hv0, Sem.run_pure, hlist, h1]
              simp [newRow]
          obtain ⟨vs, h2, h3⟩ := key
          refine ⟨.slice (some ⟨w.heap.size, 0, none⟩) n n, w.alloc (.cells vs e (0, 0)), ρ ++ [(w.heap.size, vs.size, 0)], .inl (by simp only [execOp, ho, Sem.run_bind, h3, Result.andThen_ok, Sem.run_pure]), Ext.push _ _, ⟨_, new_rel H vs.size, some ⟨w.heap.size, 0, none⟩, n, rfl, rfl, rfl⟩, ?_, rfl, fun e => by cases e⟩
          exact H.alloc h2
        · cases h
      · cases h
    · cases h
  · cases h

theorem keyIn_not {k : IntKind} {n : Int} {k0 : IntKind} : ∀ (ks : List (AV DC)) (es : List MapEntry) (i : Nat), keyIn k n ks = some false → VRels ρ ks (es.map (·.key)) → Instr.findNow (.int k0) (.int k n) es i = some none
  | [], es, i, _, hv => by
    have : es = [] := by cases es with | nil => rfl | cons e es => have := (show (e :: es).map (·.key) = [] from hv); simp at this
    subst this
    rfl
  | x :: ks, [], i, h, hv => by obtain ⟨v, vs, e, _⟩ := hv; simp at e
  | x :: ks, e :: es, i, h, hv => by
    obtain ⟨v, vs, eq, hv1, hv2⟩ := hv
    simp only [List.map_cons, List.cons.injEq] at eq
    obtain ⟨rfl, rfl⟩ := eq
    unfold keyIn at h
    split at h
    · rename_i heq; cases heq
    · rename_i k' m l heq
      cases heq
      split at h
      · rename_i hk
        have hk' : k = k' := by simpa using hk
        subst hk'
        split at h
        · cases h
        · rename_i hn
          have hn' : ¬ n = m := by simpa using hn
          have hkey : e.key = .int k m := hv1
          have hf : (n == m) = false := by simpa using hn'
          simp only [Instr.findNow, hkey, Instr.sameNow, if_true, hf]
          exact keyIn_not ks es (i + 1) h hv2
      · cases h
    · cases h

theorem run_checkKey_int {kt : TypeId} {k0 k : IntKind} {n : Int} (hu : P.underlying kt = some (.int k0)) (b : Bool) (m : Nat) (w : World) : (Instr.checkKey b (m + 1) kt (.int k n)).run P w = .ok () w := by
  simp [Instr.checkKey, run_underlying hu]

theorem insertA_sound {o : Oper} {t : TypeId} {m k v : Operand} {z : AV DC × List (W DC)} (ho : o.op = .insert t m k v) (hS : RS ρ s.slots a) (H : WR w0 own ρ s.heap w)
    (h : (insertA P s.heap t (evalA s.slots m) (evalA s.slots k) (evalA s.slots v)).pick = some z) : Does P w0 own ρ s a w o z := by
  have hm := evalA_rel hS m
  have hk := evalA_rel hS k
  have hv := evalA_rel hS v
  unfold insertA at h
  split at h
  · rename_i kt e b kk n hu he1 he2
    rw [he1] at hm
    rw [he2] at hk
    obtain ⟨r, hr, hm⟩ := hm
    have hk' : a.eval k = .int kk n := hk
    split at h
    · rename_i k0 ks vs huk hb
      split at h
      · rename_i hkk
        have hkk' : kk = k0 := by simpa using hkk
        subst hkk'
        split at h
        · rename_i hin
          have := T.ret_some h
          subst this
          obtain ⟨es, cl, hobj, hks, hvs⟩ := H.obj _ _ _ hb hr
          have hfind := keyIn_not (k0 := kk) ks es.toList 0 hin hks
          refine ⟨Go.undef, { w with heap := w.heap.setIfInBounds r.1 (.map (es.push { key := .int kk n, val := a.eval v, born := cl }) (cl + 1)) }, ρ, .inr ⟨?_, rfl⟩, Ext.refl _, rfl, ?_, rfl, fun e => by cases e⟩
          · have hget : (Go.getObj r.1).run P w = .ok (.map es cl) w := by simp [Go.getObj, Sem.run, hobj]
            have hset : ∀ x, (Go.setObj r.1 x).run P w = .ok () { w with heap := w.heap.setIfInBounds r.1 x } := fun x => by simp [Go.setObj, Sem.run, hobj]
            have hfk : (Instr.findKey kt (.int kk n) es.toList).run P w = .ok none w := by
              simp only [Instr.findKey, Sem.run_bind, run_underlying huk, Result.andThen_ok, hfind, Sem.run_pure]
            have hrun : (Instr.mapUpdate t (a.eval m) (a.eval k) (a.eval v)).run P w = .ok () { w with heap := w.heap.setIfInBounds r.1 (.map (es.push { key := .int kk n, val := a.eval v, born := cl }) (cl + 1)) } := by
              rw [hm, hk']
              simp only [Instr.mapUpdate, Sem.run_bind, run_underlying hu, Result.andThen_ok, hget, run_checkKey_int huk false 9999 w, hfk, hset]
            simp only [execOp, ho, Sem.run_bind, hrun, Result.andThen_ok, Sem.run_pure]
          · change WR w0 own ρ (s.heap.set b (.map (ks ++ [evalA s.slots k]) (vs ++ [evalA s.slots v]))) _
            have hbl : b < s.heap.length := (List.getElem?_eq_some_iff.1 hb).1
            have hrl : r.1 < w.heap.size := H.lt _ _ _ hb trivial hr
            refine H.turn hb rfl hr (by simp) (o' := .map (ks ++ [evalA s.slots k]) (vs ++ [evalA s.slots v])) (by simp [hbl]) (fun c hc => List.getElem?_set_ne (fun e => hc e.symm)) ?_ (fun c hc => ?_) (by simp) rfl rfl rfl
            · have hat : ({ w with heap := w.heap.setIfInBounds r.1 (.map (es.push { key := .int kk n, val := a.eval v, born := cl }) (cl + 1)) } : World).heap[r.1]? = some (.map (es.push { key := .int kk n, val := a.eval v, born := cl }) (cl + 1)) := by
                simp [Array.getElem?_setIfInBounds, hrl]
              rw [hat]
              refine ⟨_, _, rfl, ?_, ?_⟩
              · simp only [Array.toList_push, List.map_append, List.map_cons, List.map_nil]
                exact hks.append ⟨_, [], rfl, by rw [he2]; rfl, rfl⟩
              · simp only [Array.toList_push, List.map_append, List.map_cons, List.map_nil]
                exact hvs.append ⟨_, [], rfl, hv, rfl⟩
            · simp only [Array.getElem?_setIfInBounds]
              rw [if_neg (fun e => hc e.symm)]
        · cases h
      · cases h
    · cases h
  · cases h

theorem pickKey_sound {k k0 : IntKind} {a : AI DC} {f : AV DC → Bool → AV DC} {z0 : AV DC} {z : AV DC × List (W DC)} : ∀ (ks vs : List (AV DC)) (es : List MapEntry) (i : Nat), (pickKey k a f z0 ks vs).pick = some z → VRels ρ ks (es.map (·.key)) → VRels ρ vs (es.map (·.val)) →
    z.2 = [] ∧ ((∃ j v u, Instr.findNow (.int k0) (.int k a.den) es i = some (some (j, u)) ∧ z.1 = f v true ∧ VRel ρ v u) ∨ (Instr.findNow (.int k0) (.int k a.den) es i = some none ∧ z.1 = f z0 false))
  | [], [], es, i, h, hk, hv => by
    have := T.ret_some h
    subst this
    have : es = [] := by cases es with | nil => rfl | cons e es => have := (show (e :: es).map (·.key) = [] from hk); simp at this
    subst this
    exact ⟨rfl, .inr ⟨rfl, rfl⟩⟩
  | x :: ks, v :: vs, [], i, h, hk, hv => by obtain ⟨_, _, e, _⟩ := hk; simp at e
  | x :: ks, v :: vs, e :: es, i, h, hk, hv => by
    obtain ⟨kv, ks', eq, hk1, hk2⟩ := hk
    simp only [List.map_cons, List.cons.injEq] at eq
    obtain ⟨rfl, rfl⟩ := eq
    obtain ⟨vv, vs', eq, hv1, hv2⟩ := hv
    simp only [List.map_cons, List.cons.injEq] at eq
    obtain ⟨rfl, rfl⟩ := eq
    unfold pickKey at h
    split at h
    · rename_i k' m ks1 v1 vs1 heq1 heq2
      cases heq1
      cases heq2
      split at h
      · rename_i hkk
        have hkk' : k = k' := by simpa using hkk
        subst hkk'
        have hkey : e.key = .int k m := hk1
        have yes : a.den = m → Instr.findNow (.int k0) (.int k a.den) (e :: es) i = some (some (i, e.val)) := fun hn => by
          simp [Instr.findNow, hkey, Instr.sameNow, hn]
        have no : ¬ a.den = m → Instr.findNow (.int k0) (.int k a.den) (e :: es) i = Instr.findNow (.int k0) (.int k a.den) es (i + 1) := fun hn => by
          have hf : (a.den == m) = false := by simpa using hn
          simp [Instr.findNow, hkey, Instr.sameNow, hf]
        cases a with
        | lit n =>
          simp only [] at h
          split at h
          · rename_i hn
            have hn' : n = m := by simpa using hn
            have := T.ret_some h
            subst this
            exact ⟨rfl, .inl ⟨i, v, e.val, yes hn', rfl, hv1⟩⟩
          · rename_i hn
            have hn' : ¬ n = m := by simpa using hn
            rw [no hn']
            exact pickKey_sound ks vs es (i + 1) h hk2 hv2
        | sym y =>
          simp only [] at h
          rcases T.br_some h with ⟨h1, h2⟩ | ⟨h1, h2⟩
          · have hn' : y = m := by simpa [litCmp] using h1
            have := T.ret_some h2
            subst this
            exact ⟨rfl, .inl ⟨i, v, e.val, yes hn', rfl, hv1⟩⟩
          · have hn' : ¬ y = m := by simpa [litCmp] using h1
            rw [no hn']
            exact pickKey_sound ks vs es (i + 1) h2 hk2 hv2
      · cases h
    · rename_i heq _; cases heq
    · cases h
  | [], _ :: _, _, _, h, _, _ => by simp [pickKey, T.pick] at h
  | x :: _, [], _, _, h, _, _ => by
    unfold pickKey at h
    split at h
    · rename_i heq; cases heq
    · rename_i heq _; cases heq
    · cases h

theorem lookupA_sound {o : Oper} {t : TypeId} {x i : Operand} {c : Bool} {z : AV DC × List (W DC)} (ho : o.op = .lookup t x i c) (hS : RS ρ s.slots a) (H : WR w0 own ρ s.heap w)
    (h : (lookupA P s.heap t (evalA s.slots x) (evalA s.slots i) c).pick = some z) : Does P w0 own ρ s a w o z := by
  have hx := evalA_rel hS x
  have hi := evalA_rel hS i
  unfold lookupA at h
  split at h
  · rename_i kt e b k n hu he1 he2
    rw [he1] at hx
    rw [he2] at hi
    obtain ⟨r, hr, hx⟩ := hx
    have hi' : a.eval i = .int k n.den := hi
    split at h
    · rename_i k0 ks vs z0 huk hb hz
      split at h
      · rename_i hkk
        have hkk' : k = k0 := by simpa using hkk
        subst hkk'
        obtain ⟨es, cl, hobj, hks, hvs⟩ := H.obj _ _ _ hb hr
        obtain ⟨v0, hv0, e0⟩ := run_zeroT (P := P) hz w
        obtain ⟨h1, h2⟩ := pickKey_sound (k0 := k) ks vs es.toList 0 h hks hvs
        have hget : (Go.getObj r.1).run P w = .ok (.map es cl) w := by simp [Go.getObj, Sem.run, hobj]
        have hck := run_checkKey_int (P := P) (k := k) (n := n.den) huk es.isEmpty 9999 w
        have pair : ∀ (v : AV DC) (u : Value) (ok : Bool), VRel ρ v u → VRel ρ (okPair c v ok) (if c then .tuple #[u, .bool ok] else u) := fun v u ok hv => by
          cases c
          · exact hv
          · exact ⟨_, rfl, _, _, rfl, hv, _, _, rfl, rfl, rfl⟩
        refine does_value H (sem := Instr.lookup t (a.eval x) (a.eval i) c) (by simp only [execOp, ho]) ⟨h1, ?_⟩
        rw [hx, hi']
        rcases h2 with ⟨j, v, u, h3, h4, h5⟩ | ⟨h3, h4⟩
        · have hfk : (Instr.findKey kt (.int k n.den) es.toList).run P w = .ok (some (j, u)) w := by
            simp only [Instr.findKey, Sem.run_bind, run_underlying huk, Result.andThen_ok, h3, Sem.run_pure]
          refine ⟨_, ?_, by rw [h4]; exact pair v u true h5⟩
          simp only [Instr.lookup, Sem.run_bind, run_underlying hu, Result.andThen_ok, hget, Sem.run_pure, hck, hfk]
        · have hfk : (Instr.findKey kt (.int k n.den) es.toList).run P w = .ok none w := by
            simp only [Instr.findKey, Sem.run_bind, run_underlying huk, Result.andThen_ok, h3, Sem.run_pure]
          refine ⟨_, ?_, by rw [h4]; exact pair z0 v0 false (by rw [e0]; exact ofVal_rel v0)⟩
          simp only [Instr.lookup, Sem.run_bind, run_underlying hu, Result.andThen_ok, hget, Sem.run_pure, hck, hfk, hv0]
      · cases h
    · cases h
  · cases h

theorem mapX_sound {o : Oper} {t : T DC (AV DC × List (W DC))} {z : AV DC × List (W DC)} (ho : mapX P o s = some t) (h : t.pick = some z) (hS : RS ρ s.slots a) (H : WR w0 own ρ s.heap w) : Does P w0 own ρ s a w o z := by
  unfold mapX at ho
  simp only [] at ho
  split at ho
  · rename_i t0 n parts hop
    cases ho
    exact buildSliceA_sound hop hS H h
  · rename_i t0 hop
    cases ho
    have := T.ret_some h
    subst this
    refine ⟨.map (some w.heap.size), w.alloc (.map #[] 0), ρ ++ [(w.heap.size, 0, 0)], .inl ?_, Ext.push _ _, ⟨_, new_rel H 0, rfl⟩, ?_, rfl, fun e => by cases e⟩
    · simp [execOp, hop, Instr.makeMap, newObj]
      rfl
    · exact H.push ⟨#[], 0, rfl, rfl, rfl⟩
  · rename_i t0 m k v hop
    cases ho
    exact insertA_sound hop hS H h
  · rename_i t0 x i c hop
    cases ho
    exact lookupA_sound hop hS H h
  · cases ho
end
end Go.Proofs.Ytngcbpcfgolifaa.Ev
