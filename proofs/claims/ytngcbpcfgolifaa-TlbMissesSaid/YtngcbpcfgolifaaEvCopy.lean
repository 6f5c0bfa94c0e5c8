/- 'copy' of numbers, and 'append' of numbers to nothing as a row of its own. Conditions: none. -/
import Derived.Test.YtngcbpcfgolifaaEvApp
import Derived.Laws.CopyRow
import Derived.Laws.IdiomCopy
namespace Go.Proofs.Ytngcbpcfgolifaa.Ev
open Go.RowKit
set_option linter.unusedVariables false
set_option linter.unusedSimpArgs false

section
variable {D : Dom} (P : Program)
/-- 'copy' of numbers into a row of its own. -/
def copyA (h : List (AO D)) (t : TypeId) (d x : AV D) : Option (T D (AV D × List (W D))) := match P.underlying t with
  | some (.slice e) => match sizeT P e with
    | some 1 => (match d with
      | .slice b off len _ => match h[b]?, rowAt 1 off, len.num with
        | some (.arr u n [(.int k, F)]), some (p, 0), some m => match numsA h k x with
          | some (c, G, y, m') => some (.br (D.and (D.leN (D.nadd p (D.iteN (D.leN m' m) m' m)) n) (D.leN (D.nadd y m') c)) (.ret (.int .i64 (.sym (D.ofN (D.iteN (D.leN m' m) m' m))), [.obj b (.arr u n [(.int k, D.blitF F p G y (D.iteN (D.leN m' m) m' m))])])) .fail)
          | none => none
        | _, _, _ => none
      | .nilslice => match x with
        | .nilslice | .slice _ _ _ _ => some (.ret (.int .i64 (.lit 0), []))
        | _ => none
      | _ => none)
    | _ => none
  | _ => none
def copyX (o : Oper) (s : St D) : Option (T D (AV D × List (W D))) := match o.op with
  | .call c => match c.callee, c.args.toList, c.argTypes.toList with
    | .builtin .copy, [a, x], [t, _] => copyA P s.heap t (evalA s.slots a) (evalA s.slots x)
    | _, _, _ => none
  | _ => none
def appOwn (h : List (AO D)) (e : TypeId) (k : IntKind) (n : D.N) (f : D.F) (x m : D.N) : T D (AV D × List (W D)) :=
  .br (D.and (D.and (D.leN (D.nadd x m) n) (D.ltN m (D.nlit 16777216))) (D.ltN (D.nlit 0) m)) (.ret (.slice h.length (.lit 0) (.rc m 1 0) (.un 1), [.new (.arr e m [(.int k, D.blitF (D.constF (D.num 0)) (D.nlit 0) f x m)])])) .fail
def ownA (h : List (AO D)) (t tx : TypeId) (s x : AV D) : Option (T D (AV D × List (W D))) := match P.underlying t with
  | some (.slice e) => match P.info? e with
    | some i => match i.zero with
      | some (.int k 0) => if Nat.beq t tx && (Nat.ble i.bytes 256 && Nat.beq i.size 1) then (match dstA h e i.size s with
        | some (none, n, olds) => match numsA h k x with
          | some (c, f, y, m) => some (appOwn h e k c f y m)
          | none => none
        | _ => none) else none
      | _ => none
    | none => none
  | _ => none
def ownX (o : Oper) (s : St D) : Option (T D (AV D × List (W D))) := match o.op with
  | .call c => match c.callee, c.args.toList, c.argTypes.toList with
    | .builtin .append, [a, x], [t, tx] => ownA P s.heap t tx (evalA s.slots a) (evalA s.slots x)
    | _, _, _ => none
  | _ => none
end

section
variable {P : Program} {ρ : List Rb} {w0 w : World} {own : List Nat} {s : St DC} {a : Act}
theorem blit_zero (F G : Nat → Int) (p y i : Nat) : (if p ≤ i ∧ i < p + 0 then G (y + (i - p)) else F i) = F i := if_neg (by omega)
theorem nums_size {k : IntKind} {F : Nat → Int} {cur : Array Value} {n : Nat} (hc : ∀ i, i < n → cur[i]? = some (Value.int k (F i))) : n ≤ cur.size := by
  rcases Nat.eq_zero_or_pos n with hz | hz
  · omega
  · have := (Array.getElem?_eq_some_iff.1 (hc (n - 1) (by omega))).1
    omega
theorem copy_rows {k : IntKind} {F G : Nat → Int} {cur : Array Value} {n p y cnt : Nat} (hc : ∀ i, i < n → cur[i]? = some (Value.int k (F i))) (hfit : p + cnt ≤ n) :
    RowsRel 0 n [(CK.int k, fun i => if p ≤ i ∧ i < p + cnt then G (y + (i - p)) else F i)] (cur.toList.take p ++ ((List.range cnt).map fun j => Value.int k (G (y + j))) ++ cur.toList.drop (p + cnt)).toArray ∧
    (cur.toList.take p ++ ((List.range cnt).map fun j => Value.int k (G (y + j))) ++ cur.toList.drop (p + cnt)).toArray.size = cur.size := by
  have hs := nums_size hc
  have hcl : ((List.range cnt).map fun j => Value.int k (G (y + j))).length = cnt := by simp
  have htl : (cur.toList.take p).length = p := by rw [List.length_take, Array.length_toList]; omega
  refine ⟨fun i c kk f hi hf => ?_, ?_⟩
  · cases c with
    | zero =>
      simp only [List.getElem?_cons_zero, Option.some.injEq, Prod.mk.injEq] at hf
      obtain ⟨rfl, rfl⟩ := hf
      have e9 : 0 + (i * ([(CK.int k, fun i => if p ≤ i ∧ i < p + cnt then G (y + (i - p)) else F i)] : List (CK × (Nat → Int))).length + 0) = i := by simp
      rw [e9, List.getElem?_toArray, List.append_assoc]
      show _ = some (Value.int k (if p ≤ i ∧ i < p + cnt then G (y + (i - p)) else F i))
      by_cases hi1 : i < p
      · rw [if_neg (by omega), List.getElem?_append_left (by rw [htl]; exact hi1), List.getElem?_take, if_pos hi1]
        simpa using hc i hi
      · rw [List.getElem?_append_right (by rw [htl]; omega), htl]
        by_cases hi2 : i < p + cnt
        · rw [if_pos ⟨by omega, hi2⟩, List.getElem?_append_left (by rw [hcl]; omega), List.getElem?_map, List.getElem?_range (by omega)]
          rfl
        · rw [if_neg (by omega), List.getElem?_append_right (by rw [hcl]; omega), hcl, List.getElem?_drop]
          rw [show p + cnt + (i - p - cnt) = i by omega]
          simpa using hc i hi
    | succ c => simp at hf
  · simp only [List.size_toArray, List.length_append, hcl, htl, List.length_drop, Array.length_toList]
    omega
theorem copyA_sound {o : Oper} {t ts ty : TypeId} {d' x' : AV DC} {vd vx : Value} (hrun : (execOp a.eval o).run P w = ((Builtin.copy_ #[t, ts] ty #[vd, vx]).run P w).andThen fun v w' => .ok (.value v) w')
    (H : WR w0 own ρ s.heap w) (hd : VRel ρ d' vd) (hx : VRel ρ x' vx)
    {q : T DC (AV DC × List (W DC))} {z : AV DC × List (W DC)} (hq : copyA (D := DC) P s.heap t d' x' = some q) (h : q.pick = some z) : Does P w0 own ρ s a w o z := by
  unfold copyA at hq
  split at hq
  · rename_i e hu
    split at hq
    · rename_i hsz
      split at hq
      · rename_i b off len cap
        split at hq
        · rename_i u n k F p m hb hra hl
          split at hq
          · rename_i c G y m' hn
            cases hq
            rcases T.br_some h with ⟨h1, h2⟩ | ⟨_, h2⟩
            · have := T.ret_some h2
              subst this
              have hs1 : (P.info? e).map (·.size) = some 1 := by
                unfold sizeT at hsz
                cases hi : P.info? e with
                | none => rw [hi] at hsz; cases hsz
                | some i => rw [hi] at hsz; simpa using hsz
              obtain ⟨r, hr, pd, cd, hvd, hpd⟩ := hd
              obtain ⟨px, cx, hvx, hpx⟩ := numsA_spec H hn hx
              obtain ⟨cur, hcur, hown, hrows⟩ := H.obj _ _ _ hb hr
              have hden : len.den = (m : Nat) := num_den hl
              have hoff : off.den = (p : Nat) * 1 + 0 := rowAt_den hra
              obtain ⟨cnt, hcnt⟩ : ∃ cnt : Nat, cnt = DC.iteN (DC.leN m' m) m' m := ⟨_, rfl⟩
              have hmin : cnt = Nat.min (m' : Nat) (m : Nat) := by
                rw [hcnt]
                show cond (decide ((m' : Nat) ≤ m)) m' m = min (m' : Nat) (m : Nat)
                by_cases hle : (m' : Nat) ≤ m
                · rw [decide_eq_true hle, Nat.min_eq_left hle]; rfl
                · rw [decide_eq_false hle, Nat.min_eq_right (Nat.le_of_not_le hle)]; rfl
              rw [← hcnt] at h1 ⊢
              have h1' : (decide ((p : Nat) + cnt ≤ (n : Nat)) && decide ((y : Nat) + m' ≤ (c : Nat))) = true := h1
              rw [Bool.and_eq_true] at h1'
              have hfitn : (p : Nat) + cnt ≤ (n : Nat) := of_decide_eq_true h1'.1
              have hfity : (y : Nat) + m' ≤ (c : Nat) := of_decide_eq_true h1'.2
              have hc1 : cnt ≤ (m' : Nat) := by rw [hmin]; exact Nat.min_le_left _ _
              have hc2 : cnt ≤ (m : Nat) := by rw [hmin]; exact Nat.min_le_right _ _
              have hbl : b < s.heap.length := (List.getElem?_eq_some_iff.1 hb).1
              have hslots : (s.apps [.obj b (.arr u n [(.int k, DC.blitF F p G y cnt)])]).slots = s.slots := rfl
              have hcell0 : ∀ i, i < (n : Nat) → cur[i]? = some (Value.int k (F i)) := fun i hi => by
                have h9 := hrows i 0 _ _ hi rfl
                have e9 : 0 + (i * ([(CK.int k, F)] : List (CK × (Nat → Int))).length + 0) = i := by simp
                rw [e9] at h9
                exact h9
              by_cases h0 : cnt = 0
              · have hr0 := run_copy_none (P := P) w t ts ty e pd px len.den cd m' cx hu hs1 (by rw [hden, ← hmin, h0])
                refine ⟨.int .i64 ((cnt : Nat) : Int), w, ρ, .inl (by rw [hrun, hvd, hvx, hr0, h0]; rfl), Ext.refl _, rfl, ?_, hslots, fun e => by cases e⟩
                refine H.turn hb rfl hr (by simp [St.apps, St.app]) (o' := .arr u n [(.int k, DC.blitF F p G y cnt)]) (by simp [St.apps, St.app, hbl]) (fun c hc => by simp only [St.apps, St.app]; rw [List.getElem?_set_ne (fun e => hc e.symm)]) ?_ (fun c hc => rfl) rfl rfl rfl rfl
                refine ⟨cur, hcur, hown, fun i c kk f hi hf => ?_⟩
                cases c with
                | zero =>
                  simp only [List.getElem?_cons_zero, Option.some.injEq, Prod.mk.injEq] at hf
                  obtain ⟨rfl, rfl⟩ := hf
                  have e9 : 0 + (i * ([(CK.int k, DC.blitF F p G y cnt)] : List (CK × (Nat → Int))).length + 0) = i := by simp
                  rw [e9, hcell0 i hi]
                  show some (Value.int k (F i)) = some (Value.int k (if (p : Nat) ≤ i ∧ i < (p : Nat) + cnt then G ((y : Nat) + (i - p)) else F i))
                  rw [h0, blit_zero]
                | succ c => simp at hf
              · have hpos : 0 < cnt := Nat.pos_of_ne_zero h0
                obtain ⟨ad, rfl, hsrc⟩ := hpx hfity (Nat.lt_of_lt_of_le hpos hc1)
                have hpd' := hpd.at (by rw [hden]; exact Nat.lt_of_lt_of_le hpos hc2)
                rw [Rb.ad_own hown] at hpd'
                subst hpd'
                have hcl : ((List.range cnt).map fun j => Value.int k (G ((y : Nat) + j))).length = cnt := by simp
                have hcs : ∀ (j : Nat) v, ((List.range cnt).map fun j => Value.int k (G ((y : Nat) + j)))[j]? = some v → w.cell? (ad.add j) = some v := by
                  intro j v hj
                  rcases Nat.lt_or_ge j cnt with hjm | hjm
                  · rw [List.getElem?_map, List.getElem?_range hjm] at hj
                    cases hj
                    exact hsrc w rfl j (Nat.lt_of_lt_of_le hjm hc1)
                  · rw [List.getElem?_eq_none (by simpa using hjm)] at hj
                    cases hj
                have hone : ∀ v ∈ ((List.range cnt).map fun j => Value.int k (G ((y : Nat) + j))), v.oneCell' = true := by
                  intro v hv
                  obtain ⟨j, _, rfl⟩ := List.mem_map.1 hv
                  rfl
                have hpo : off.den = p := by rw [hoff, Nat.mul_one, Nat.add_zero]
                have hsz2 := nums_size hcell0
                obtain ⟨cr1, cr2⟩ := copy_rows (G := G) (y := y) hcell0 hfitn
                have hfit : off.den + ((List.range cnt).map fun j => Value.int k (G ((y : Nat) + j))).length ≤ cur.size := by rw [hcl, hpo]; exact Nat.le_trans hfitn hsz2
                have hrow := run_copy_row (P := P) w t ts ty e r.1 off.den len.den cd ad m' cx cur u _ hu hs1 hcur (by rw [hcl, hden]; exact hmin) hcs hfit hone
                rw [hcl] at hrow
                refine ⟨.int .i64 ((cnt : Nat) : Int), _, ρ, .inl (by rw [hrun, hvd, hvx, hrow]; rfl), Ext.refl _, rfl, ?_, hslots, fun e => by cases e⟩
                refine H.turn hb rfl hr (by simp [St.apps, St.app]) (o' := .arr u n [(.int k, DC.blitF F p G y cnt)]) (by simp [St.apps, St.app, hbl]) (fun c hc => by simp only [St.apps, St.app]; rw [List.getElem?_set_ne (fun e => hc e.symm)]) ?_ (fun c hc => setRow_other w r.1 c _ hc) (by simp [World.setRow]) rfl rfl rfl
                rw [setRow_heap w r.1 cur _ u (0, 0) hcur]
                rw [hpo]
                exact ⟨_, rfl, ⟨cr2.trans hown.1, hown.2⟩, cr1⟩
            · cases h2
          · cases hq
        · cases hq
      · have hs1 : (P.info? e).map (·.size) = some 1 := by
          unfold sizeT at hsz
          cases hi : P.info? e with
          | none => rw [hi] at hsz; cases hsz
          | some i => rw [hi] at hsz; simpa using hsz
        have hd' : vd = .slice none 0 0 := hd
        have hnil : ∀ (p : Option Addr) (l c : Nat), vx = .slice p l c → (Builtin.copy_ #[t, ts] ty #[vd, vx]).run P w = .ok (goInt 0) w := fun p l c e1 => by
          rw [hd', e1]
          exact run_copy_none (P := P) w t ts ty e none p 0 0 l c hu hs1 (Nat.min_zero _)
        split at hq
        · cases hq
          have := T.ret_some h
          subst this
          exact Does.same H (by rw [hrun, hnil none 0 0 hx]; rfl) rfl
        · cases hq
          have := T.ret_some h
          subst this
          obtain ⟨r, _, p, c, e1, _⟩ := hx
          exact Does.same H (by rw [hrun, hnil _ _ _ e1]; rfl) rfl
        · cases hq
      · cases hq
    · cases hq
  · cases hq
theorem copyX_sound {o : Oper} {t : T DC (AV DC × List (W DC))} {z : AV DC × List (W DC)} (ho : copyX P o s = some t) (h : t.pick = some z) (hS : RS ρ s.slots a) (H : WR w0 own ρ s.heap w) : Does P w0 own ρ s a w o z := by
  unfold copyX at ho
  split at ho
  · rename_i c hop
    split at ho
    · rename_i a1 x1 t1 tx1 hc ha ht
      obtain ⟨cal, args, ats⟩ := c
      have ha' : args = #[a1, x1] := Array.ext' ha
      have ht' : ats = #[t1, tx1] := Array.ext' ht
      have hc' : cal = .builtin .copy := hc
      subst ha' ht' hc'
      refine copyA_sound (ty := o.type) (ts := tx1) ?_ H (evalA_rel hS a1) (evalA_rel hS x1) ho h
      simp [execOp, hop, resolve, invoke, builtin]
    · cases ho
  · cases ho

theorem appOwn_sound {o : Oper} {t ty e : TypeId} {i : TypeInfo} {k : IntKind} {s' x' : AV DC} {vs vx : Value} (hrun : (execOp a.eval o).run P w = ((Builtin.append_ #[t, t] ty #[vs, vx]).run P w).andThen fun v w' => .ok (.value v) w')
    (hu : P.underlying t = some (.slice e)) (hi : P.info? e = some i) (hz : i.zero = some (.int k 0)) (hb : i.bytes ≤ 256) (hsz : i.size = 1)
    (H : WR w0 own ρ s.heap w) (hs : VRel ρ s' vs) (hx : VRel ρ x' vx) {n0 : Nat} {olds : List (AV DC)} (hd : dstA s.heap e i.size s' = some (none, n0, olds)) {n y m : Nat} {f : Nat → Int} (hsrc : numsA (D := DC) s.heap k x' = some (n, f, y, m))
    {z : AV DC × List (W DC)} (h : (appOwn (D := DC) s.heap e k n f y m).pick = some z) : Does P w0 own ρ s a w o z := by
  obtain ⟨base, rfl⟩ := dst_none hd hs
  obtain ⟨p, cx, rfl, hp⟩ := numsA_spec H hsrc hx
  rcases T.br_some h with ⟨h1, h2⟩ | ⟨_, h2⟩
  · have := T.ret_some h2
    subst this
    have h1' : ((decide (y + m ≤ n) && decide (m < 16777216)) && decide (0 < m)) = true := h1
    rw [Bool.and_eq_true, Bool.and_eq_true] at h1'
    have hle : y + m ≤ n := of_decide_eq_true h1'.1.1
    have hm2 : m < 16777216 := of_decide_eq_true h1'.1.2
    have hm0 : 0 < m := of_decide_eq_true h1'.2
    have hden : (AN.rc (D := DC) m 1 0).den = m := by
      show m * 1 + 0 = m
      omega
    obtain ⟨ad, rfl, hc⟩ := hp hle hm0
    have hnl : ((List.range m).map fun j => Value.int k (f (y + j))).length = m * i.size := by rw [hsz]; simp
    have hcell : ∀ w' : World, w'.heap = w.heap → ∀ (j : Nat) u, ((List.range m).map fun j => Value.int k (f (y + j)))[j]? = some u → w'.cell? (ad.add j) = some u := by
      intro w' hw j u hj
      rcases Nat.lt_or_ge j m with hjm | hjm
      · rw [List.getElem?_map, List.getElem?_range hjm] at hj
        cases hj
        exact hc w' hw j hjm
      · rw [List.getElem?_eq_none (by simpa using hjm)] at hj
        cases hj
    have hone : ∀ u ∈ ((List.range m).map fun j => Value.int k (f (y + j))), u.oneCell' = true := by
      intro u hu
      obtain ⟨j, _, rfl⟩ := List.mem_map.1 hu
      rfl
    have hsr : Src P i.size t (.slice (some ad) m cx) m _ w := Src.ofSlice w (e' := e) hu ad m cx _ hnl (hcell w rfl) hone
    have hfit : Builtin.nextslicecap (0 + m) 0 * i.bytes ≤ 281474976710656 := growslice_fits (by omega) (by
      have : (0 + m) * i.bytes ≤ 16777216 * 256 := Nat.mul_le_mul (by omega) hb
      omega)
    have hr := run_append_grow_src w t t ty e i (.int k 0) hu hi hz base 0 0 [] (by cases base <;> simp [Builtin.firstCells, loadCells, loadCellsFrom]) (.slice (some ad) m cx) m _ hsr (by omega) (by omega) hfit
    rw [Nat.zero_add, List.nil_append] at hr
    have hge := grownCap_ge w m 0 e
    have hsz2 : ((((List.range m).map fun j => Value.int k (f (y + j))).toArray) ++ Builtin.zeroCells (Value.int k 0).cells (grownCap w m 0 e - m)).size = grownCap w m 0 e := by
      rw [Array.size_append, List.size_toArray, hnl, hsz, fill_size _ _ 1 rfl]
      omega
    refine ⟨.slice (some ⟨w.heap.size, 0, none⟩) m (grownCap w m 0 e), w.drew.alloc (.cells ((((List.range m).map fun j => Value.int k (f (y + j))).toArray) ++ Builtin.zeroCells (Value.int k 0).cells (grownCap w m 0 e - m)) e (0, 0)), ρ ++ [(w.heap.size, ((((List.range m).map fun j => Value.int k (f (y + j))).toArray) ++ Builtin.zeroCells (Value.int k 0).cells (grownCap w m 0 e - m)).size, 0)], .inl (by rw [hrun, hr]; rfl), Ext.push _ _, ⟨_, new_rel H _, some ⟨w.heap.size, 0, none⟩, grownCap w m 0 e, by rw [hden], by rw [hden]; exact hge, 0, rfl, .inr ⟨rfl, .inr ?_⟩⟩, ?_, rfl, fun e => by cases e⟩
    · show 0 + grownCap w m 0 e * 1 ≤ _
      rw [Nat.zero_add, Nat.mul_one]
      exact Nat.le_of_eq hsz2.symm
    · refine H.drew.push ⟨_, rfl, ⟨rfl, rfl⟩, ?_⟩
      intro j c kk g hj hg
      cases c with
      | zero =>
        simp only [List.getElem?_cons_zero, Option.some.injEq, Prod.mk.injEq] at hg
        obtain ⟨rfl, rfl⟩ := hg
        have hj' : j < m := hj
        show (((((List.range m).map fun j => Value.int k (f (y + j))).toArray) ++ Builtin.zeroCells (Value.int k 0).cells (grownCap w m 0 e - m)))[0 + (j * 1 + 0)]? = some (Value.int k (if 0 ≤ j ∧ j < 0 + m then f (y + (j - 0)) else 0))
        rw [show 0 + (j * 1 + 0) = j by omega, Array.getElem?_append_left (by simp [hj']), if_pos ⟨Nat.zero_le _, by omega⟩, Nat.sub_zero]
        simp [hj']
      | succ c => simp at hg
  · cases h2
theorem ownX_sound {o : Oper} {t : T DC (AV DC × List (W DC))} {z : AV DC × List (W DC)} (ho : ownX P o s = some t) (h : t.pick = some z) (hS : RS ρ s.slots a) (H : WR w0 own ρ s.heap w) : Does P w0 own ρ s a w o z := by
  unfold ownX at ho
  split at ho
  · rename_i c hop
    split at ho
    · rename_i a1 x1 t1 tx1 hc ha ht
      obtain ⟨cal, args, ats⟩ := c
      have ha' : args = #[a1, x1] := Array.ext' ha
      have ht' : ats = #[t1, tx1] := Array.ext' ht
      have hc' : cal = .builtin .append := hc
      subst ha' ht' hc'
      unfold ownA at ho
      split at ho
      · rename_i e hu
        split at ho
        · rename_i i hi
          split at ho
          · rename_i k hz
            split at ho
            · rename_i hg
              simp only [Bool.and_eq_true] at hg
              obtain ⟨g1, g2, g3⟩ := hg
              have := Nat.eq_of_beq_eq_true g1
              subst this
              split at ho
              · rename_i n olds hd
                split at ho
                · rename_i c f y m hn
                  cases ho
                  refine appOwn_sound (ty := o.type) ?_ hu hi hz (Nat.le_of_ble_eq_true g2) (Nat.eq_of_beq_eq_true g3) H (evalA_rel hS a1) (evalA_rel hS x1) hd hn h
                  simp [execOp, hop, resolve, invoke, builtin]
                · cases ho
              · cases ho
            · cases ho
          · cases ho
        · cases ho
      · cases ho
    · cases ho
  · cases ho
end
end Go.Proofs.Ytngcbpcfgolifaa.Ev
