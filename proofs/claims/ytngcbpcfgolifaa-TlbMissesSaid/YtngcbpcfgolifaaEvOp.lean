/- An operation that is no call of a Go function: sound, all kinds together. -/
import Derived.Test.YtngcbpcfgolifaaEvStep3
namespace Go.Proofs.Ytngcbpcfgolifaa.Ev
open Go.RowKit
set_option linter.unusedVariables false
set_option linter.unusedSimpArgs false
section
variable {P : Program} {ρ : List Rb} {w0 w : World} {own : List Nat} {s : St DC} {a : Act}

theorem does_pure {o : Oper} {t : T DC (AV DC)} {z : AV DC × List (W DC)} (H : WR w0 own ρ s.heap w) (h : (pureT t).pick = some z) {sem : Sem Value}
    (he : execOp a.eval o = (do pure (.value (← sem)) : Sem Next)) (hs : ∀ v, t.pick = some v → ∃ r, sem.run P w = .ok r w ∧ VRel ρ v r) : Does P w0 own ρ s a w o z := by
  obtain ⟨h1, h2⟩ := pure_some h
  obtain ⟨r, h3, h4⟩ := hs _ h1
  obtain ⟨v, l⟩ := z
  exact does_same H h2 ⟨r, by rw [he]; simp [h3], h4⟩

theorem does_value {o : Oper} {z : AV DC × List (W DC)} (H : WR w0 own ρ s.heap w) {sem : Sem Value}
    (he : execOp a.eval o = (do pure (.value (← sem)) : Sem Next)) (hz : z.2 = [] ∧ ∃ r, sem.run P w = .ok r w ∧ VRel ρ z.1 r) : Does P w0 own ρ s a w o z := by
  obtain ⟨v, l⟩ := z
  obtain ⟨h1, r, h2, h3⟩ := hz
  exact does_same H h1 ⟨r, by rw [he]; simp [h2], h3⟩

theorem does_new {o : Oper} {e : TypeId} {cs : List (AV DC)} {vs : Array Value} (H : WR w0 own ρ s.heap w) (hv : VRels ρ cs vs.toList)
    (he : (execOp a.eval o).run P w = .ok (.value (.pointer (some ⟨w.heap.size, 0, none⟩))) (w.alloc (.cells vs e (0, 0)))) :
    Does P w0 own ρ s a w o (.ptr s.heap.length (.lit 0), [.new (.cells e cs)]) := by
  refine ⟨_, _, ρ ++ [(w.heap.size, vs.size, 0)], .inl he, Ext.push _ _, ⟨(w.heap.size, vs.size, 0), ?_, rfl⟩, ?_, rfl, fun e => by cases e⟩
  · rw [← H.len, List.getElem?_append_right (Nat.le_refl _)]
    simp
  · exact H.alloc hv

theorem cells_one {k : CK} {n : Int} : (k.val n).oneCell' = true := by cases k <;> rfl

/-- Cells of one row stored one by one. -/
theorem storeCells_row {e : TypeId} {r : Nat} : ∀ (us : List Value) (i off : Nat) (vs : Array Value) (w : World), w.heap[r]? = some (.cells vs e (0, 0)) → off + i + us.length ≤ vs.size → (∀ u ∈ us, u.oneCell' = true) →
    ∃ w' vs', (storeCells ⟨r, off, none⟩ us i).run P w = .ok () w' ∧ w'.heap[r]? = some (.cells vs' e (0, 0)) ∧ vs'.size = vs.size ∧ (∀ j, vs'[j]? = if off + i ≤ j ∧ j < off + i + us.length then us[j - (off + i)]? else vs[j]?) ∧
      (∀ c, c ≠ r → w'.heap[c]? = w.heap[c]?) ∧ w'.heap.size = w.heap.size ∧ w'.os = w.os ∧ w'.tape = w.tape ∧ w'.output = w.output
  | [], i, off, vs, w, hw, hl, h1 => ⟨w, vs, rfl, hw, rfl, fun j => by rw [if_neg (by intro h; simp at h; omega)], fun _ _ => rfl, rfl, rfl, rfl, rfl⟩
  | u :: us, i, off, vs, w, hw, hl, h1 => by
    simp only [List.length_cons] at hl
    have hlt : off + i < vs.size := by omega
    have hcell : w.cell? ⟨r, off + i, none⟩ = some vs[off + i] := by
      rw [cell_of_row w r (off + i) vs e (0, 0) hw]
      exact Array.getElem?_eq_getElem hlt
    have hfz := frozen_of_row w r (off + i) vs e hw
    have hst : (store ⟨r, off + i, none⟩ u).run P w = .ok () (w.setCell ⟨r, off + i, none⟩ u) := by
      rw [run_store P w _ u _ (h1 u (by simp)), hcell]
      simp [hfz]
    have hw1 := heap_setCell_same w r (off + i) vs e u hw
    obtain ⟨w', vs', g1, g2, g3, g4, g5, g6, g7, g8, g9⟩ := storeCells_row us (i + 1) off (vs.setIfInBounds (off + i) u) (w.setCell ⟨r, off + i, none⟩ u) hw1 (by simp; omega) (fun x hx => h1 x (by simp [hx]))
    refine ⟨w', vs', ?_, g2, by simpa using g3, fun j => ?_, fun c hc => ?_, by simpa using g6, g7, g8, g9⟩
    · simp only [storeCells, add_lit, Sem.run_bind, hst, Result.andThen_ok]
      exact g1
    · rw [g4 j]
      by_cases c1 : off + (i + 1) ≤ j ∧ j < off + (i + 1) + us.length
      · rw [if_pos c1, if_pos (by simp; omega)]
        rw [show j - (off + i) = (j - (off + (i + 1))) + 1 by omega]
        simp
      · rw [if_neg c1, Array.getElem?_setIfInBounds]
        by_cases c2 : off + i = j
        · subst c2
          rw [if_pos rfl, if_pos hlt, if_pos (by simp)]
          simp
        · rw [if_neg c2, if_neg (by simp; omega)]
    · rw [g5 c hc, heap_setCell_other w ⟨r, off + i, none⟩ c u hc]

theorem setRow_one {x : Nat} : ∀ (fs : List (CK × (Nat → Int))) (c : Nat) (l : List (AV DC)) (gs : List (CK × (Nat → Int))) (us : List Value), (setRow (D := DC) x fs c l : Option _) = some gs → VRels ρ l us → ∀ u ∈ us, u.oneCell' = true
  | fs, c, [], gs, us, h, hv, u, hu => by rw [show us = [] from hv] at hu; cases hu
  | [], c, _ :: _, gs, us, h, hv, u, hu => by cases c <;> simp [setRow] at h
  | (k, f) :: fs, 0, v :: l, gs, us, h, hv, u, hu => by
    simp only [setRow] at h
    split at h
    · rename_i n r h1 h2
      obtain ⟨u0, us', rfl, hu0, hus⟩ := hv
      rcases List.mem_cons.1 hu with rfl | hu
      · rw [cellI_rel h1 hu0]; exact cells_one
      · exact setRow_one fs 0 l r us' h2 hus u hu
    · cases h
  | (k, f) :: fs, c + 1, v :: l, gs, us, h, hv, u, hu => by
    simp only [setRow] at h
    split at h
    · rename_i r h1
      exact setRow_one fs c (v :: l) r us h1 hv u hu
    · cases h

theorem rowFit {i L c sz n : Nat} (h : i * L + (c + sz - 1) < n) (h1 : 1 ≤ sz) : i * L + c + sz ≤ n := by omega
theorem rowApart {i j L c cc m : Nat} (hji : ¬ j = i) (hcc : cc < L) (hcm : c + m ≤ L) (q1 : i * L + c + 0 ≤ j * L + cc) (q2 : j * L + cc < i * L + c + 0 + m) : False := by
  rcases Nat.lt_or_gt_of_ne hji with hlt | hgt
  · have : (j + 1) * L ≤ i * L := Nat.mul_le_mul_right _ hlt
    rw [Nat.add_mul] at this
    omega
  · have : (i + 1) * L ≤ j * L := Nat.mul_le_mul_right _ hgt
    rw [Nat.add_mul] at this
    omega

theorem storeRow_sound {t : TypeId} {b : Nat} {off : AN DC} {x : AV DC} {v : Value} {z : AV DC × List (W DC)} (H : WR w0 own ρ s.heap w) (h : (storeRow P s.heap t b off x).pick = some z) {r : Rb} (hr : ρ[b]? = some r) (hv : VRel ρ x v) :
    z.1 = .undef ∧ (∃ o, z.2 = [.obj b o]) ∧ ∃ w', (storeVar t (r.ad off.den) v).run P w = .ok () w' ∧ WR w0 own ρ (s.apps z.2).heap w' := by
  unfold storeRow at h
  cases hb : s.heap[b]? with
  | none => rw [hb] at h; cases h
  | some o =>
    rw [hb] at h
    cases hs : sizeT P t with
    | none => rw [hs] at h; cases o <;> cases h
    | some sz =>
      rw [hs] at h
      cases o <;> (try simp only [] at h) <;> first | (cases h; done) | skip
      rename_i e n fs
      cases hra : (rowAt fs.length off : Option (Nat × Nat)) with
      | none => rw [hra] at h; cases h
      | some xc =>
        obtain ⟨i, c⟩ := xc
        rw [hra] at h
        simp only [] at h
        have hden := rowAt_den hra
        split at h
        · rename_i hlen
          simp only [Bool.and_eq_true] at hlen
          have hcl : c + sz ≤ fs.length := Nat.le_of_ble_eq_true hlen.2.1
          have hsz1 := Nat.le_of_ble_eq_true hlen.2.2
          have hlen := Nat.eq_of_beq_eq_true hlen.1
          cases hsr : (setRow (D := DC) i fs c x.cellsA : Option _) with
          | none => rw [hsr] at h; cases h
          | some gs =>
            rw [hsr] at h
            rcases T.br_some h with ⟨h1, h2⟩ | ⟨_, h2⟩
            · have := T.ret_some h2
              subst this
              have hi : i < nN n := of_decide_eq_true h1
              obtain ⟨vs, hvs, hsz, hcell0⟩ := H.obj _ _ _ hb hr
              have hcell : ∀ (i c : Nat) k f, i < nN n → fs[c]? = some (k, f) → vs[i * fs.length + c]? = some (k.val (f i)) := fun i c k f h1 h2 => by
                have := hcell0 i c k f h1 h2
                rwa [Nat.zero_add] at this
              have hd : x ≠ .dead := by
                rintro rfl
                have : ∀ (l : List (CK × (Nat → Int))) (c : Nat) gs, (setRow (D := DC) i l c [.dead] : Option _) = some gs → False := by
                  intro l
                  induction l with
                  | nil => intro c gs h; cases c <;> simp [setRow] at h
                  | cons a l ih =>
                    obtain ⟨k, f⟩ := a
                    intro c gs h
                    cases c with
                    | zero => cases k <;> simp [setRow, cellI] at h
                    | succ c =>
                      simp only [setRow] at h
                      split at h
                      · rename_i r hr; exact ih c r hr
                      · cases h
                exact this _ _ _ hsr
              have hcs : VRels ρ x.cellsA v.cells.toList := cells_rel hv hd
              obtain ⟨g1, g2⟩ := setRow_len _ _ _ _ hsr
              have hul : v.cells.toList.length = sz := by rw [hcs.length, hlen]
              have hfits : i * fs.length + c + v.cells.toList.length ≤ vs.size := by
                have hlt : c + sz - 1 < fs.length := by omega
                obtain ⟨kf, hkf⟩ : ∃ kf : CK × (Nat → Int), fs[c + sz - 1]? = some kf := ⟨_, List.getElem?_eq_getElem hlt⟩
                have h3 := hcell i (c + sz - 1) kf.1 kf.2 hi hkf
                have h4 : i * fs.length + (c + sz - 1) < vs.size := (Array.getElem?_eq_some_iff.1 h3).1
                rw [hul]
                exact rowFit h4 hsz1
              obtain ⟨w', vs', k1, k2, k3, k4, k5, k6, k7, k8, k9⟩ := storeCells_row (P := P) (e := e) (r := r.1) v.cells.toList 0 off.den vs w hvs (by rw [hden]; simpa using hfits) (setRow_one _ _ _ _ _ hsr hcs)
              refine ⟨rfl, ⟨_, rfl⟩, w', ?_, ?_⟩
              · have hsz' : v.cells.size = sz := by simpa using hul
                simp only [storeVar, Sem.run_bind, run_sizeT hs, Result.andThen_ok, hsz', ne_eq, not_true_eq_false, if_false]
                rw [Rb.ad_own hsz]
                simpa using k1
              · change WR w0 own ρ (s.heap.set b (.arr e n gs)) w'
                have hbl : b < s.heap.length := (List.getElem?_eq_some_iff.1 hb).1
                refine H.turn hb rfl hr (by simp) (o' := .arr e n gs) (by simp [hbl]) (fun c hc => List.getElem?_set_ne (fun e => hc e.symm)) ?_ k5 k6 k7 k8 k9
                rw [k2]
                refine ⟨vs', rfl, by rw [k3]; exact hsz, fun j cc k g hj hcc => ?_⟩
                obtain ⟨f, f1, f2, f3, f4⟩ := setRow_spec _ _ _ _ _ hsr hcs cc k g hcc
                have hccl : cc < fs.length := (List.getElem?_eq_some_iff.1 f1).1
                rw [Nat.zero_add, g1, k4, hden]
                by_cases hji : j = i
                · subst hji
                  by_cases hin : c ≤ cc ∧ cc < c + v.cells.toList.length
                  · rw [if_pos (by omega)]
                    have := f4 hin.1 (by rw [hlen, ← hul]; exact hin.2)
                    rw [show j * fs.length + cc - (j * fs.length + c + 0) = cc - c by omega]
                    exact this
                  · rw [if_neg (by omega), f3 (by rw [hlen, ← hul]; omega)]
                    exact hcell j cc k f hj f1
                · rw [f2 j hji, if_neg]
                  · exact hcell j cc k f hj f1
                  · rintro ⟨q1, q2⟩
                    have hcm : c + v.cells.toList.length ≤ fs.length := by rw [hul]; exact hcl
                    exact rowApart hji hccl hcm q1 q2
            · cases h2
        · cases h

theorem boxA_rel {x : AV DC} (hd : x ≠ .dead) {v : Value} (h : VRel ρ x v) : VRels ρ x.cellsA v.cells.toList := cells_rel h hd

theorem opA_sound (hS : RS ρ s.slots a) (H : WR w0 own ρ s.heap w) {o : Oper} {z : AV DC × List (W DC)} (h : (opA P o s).pick = some z) : Does P w0 own ρ s a w o z := by
  have hr := evalA_rel hS
  have hrs := evalA_map hS
  obtain ⟨dst, op, type, pos, after, guard⟩ := o
  cases op <;> first | (cases h; done) | skip
  case move x =>
    have := T.ret_some h
    subst this
    exact Does.same H rfl (hr x)
  case assign x =>
    have := T.ret_some h
    subst this
    exact Does.same H rfl (hr x)
  case pick c x y =>
    simp only [opA] at h
    have hc := hr c
    have key : ∀ (b : Bool) (m : AV DC), a.eval c = .bool b → VRel ρ m (if b then a.eval x else a.eval y) → Does P w0 own ρ s a w ⟨dst, .pick c x y, type, pos, after, guard⟩ (m, []) := fun b m hb hm =>
      Does.same H (by simp [execOp, hb, asBool]) hm
    cases hcv : evalA s.slots c <;> rw [hcv] at h hc <;> (try simp only [] at h) <;> first | (cases h; done) | skip
    rename_i ab
    cases ab with
    | lit b =>
      cases b <;> simp only [] at h <;> (have := T.ret_some h; subst this)
      · exact key false _ hc (hr y)
      · exact key true _ hc (hr x)
    | sym b =>
      simp only [] at h
      have hbr : (T.br (D := DC) b (.ret (evalA s.slots x, [])) (.ret (evalA s.slots y, []))).pick = some z → Does P w0 own ρ s a w ⟨dst, .pick c x y, type, pos, after, guard⟩ z := fun h => by
        rcases T.br_some h with ⟨h1, h2⟩ | ⟨h1, h2⟩ <;> (have := T.ret_some h2; subst this)
        · exact key true _ (by rw [hc]; exact congrArg Value.bool h1) (hr x)
        · exact key false _ (by rw [hc]; exact congrArg Value.bool h1) (hr y)
      split at h
      · exact hbr h
      · rename_i m hne hm
        have := T.ret_some h
        subst this
        refine key b m hc (mergeV_rel hm ?_)
        cases hb : (b : Bool)
        · exact hr y
        · exact hr x
      · exact hbr h
  case alloc e =>
    simp only [opA] at h
    cases hz : (zeroT P e : Option (AV DC)) with
    | none => rw [hz] at h; cases h
    | some v0 =>
      rw [hz] at h
      simp only [] at h
      split at h
      · rename_i hl
        have := T.ret_some h
        subst this
        obtain ⟨v, hv, e0⟩ := run_zeroT (P := P) hz w
        refine does_new H (zero_cells e0 hl) ?_
        simp [execOp, Instr.alloc, hv, newVar, newRow]
      · cases h
  case box e x =>
    simp only [opA] at h
    have hx := hr x
    generalize evalA s.slots x = X at *
    have hd : X ≠ .dead := by rintro rfl; cases h
    have h' : z = (.ptr s.heap.length (.lit 0), [.new (.cells e X.cellsA)]) := by
      cases X <;> first | exact absurd rfl hd | exact (T.ret_some h).symm
    subst h'
    refine does_new H (cells_rel hx hd) ?_
    simp [execOp, Instr.box, newVar, newRow]
  case build t ps =>
    refine does_pure H h (sem := Instr.build t (ps.map fun p => (p.1, a.eval p.2))) rfl fun v hv => ?_
    have := buildA_sound (P := P) (w := w) (qs := ps.toList.map fun p => (p.1, a.eval p.2)) hv (by simp [Function.comp_def]) (by
      have := hrs (ps.toList.map (·.2))
      simpa [Function.comp_def] using this)
    obtain ⟨r, h1, h2⟩ := this
    refine ⟨r, ?_, h2⟩
    rw [← h1]
    congr 2
    apply Array.ext'
    simp
  case load t x =>
    simp only [opA] at h
    have hx := hr x
    generalize evalA s.slots x = X at *
    cases X <;> (try simp only [] at h) <;> first | (cases h; done) | skip
    rename_i b off
    obtain ⟨r, hr', hx⟩ := hx
    have he : execOp a.eval ⟨dst, .load t x, type, pos, after, guard⟩ = (do pure (.value (← loadVar t (r.ad off.den))) : Sem Next) := by
      simp only [execOp, hx, Instr.loadAt, Instr.sureAddr, pure_bind]
    cases hl : loadA P s.heap t b off with
    | none =>
      rw [hl] at h
      exact does_value H he (loadRow_sound H h hr')
    | some v =>
      rw [hl] at h
      have := T.ret_some h
      subst this
      exact does_value H he ⟨rfl, run_loadVar_rel H hl hr'⟩
  case store t x y =>
    simp only [opA] at h
    have hx := hr x
    generalize evalA s.slots x = X at *
    cases X <;> (try simp only [] at h) <;> first | (cases h; done) | skip
    rename_i b off
    obtain ⟨r, hr', hx⟩ := hx
    have he : execOp a.eval ⟨dst, .store t x y, type, pos, after, guard⟩ = (do storeVar t (r.ad off.den) (a.eval y); pure .skip : Sem Next) := by
      simp only [execOp, hx, Instr.storeAt, Instr.sureAddr, pure_bind]
    cases hl : storeA P s.heap t b off (evalA s.slots y) with
    | none =>
      rw [hl] at h
      simp only [] at h
      obtain ⟨h1, h2, w', h3, h4⟩ := storeRow_sound (P := P) H h hr' (hr y)
      exact ⟨Go.undef, w', ρ, .inr ⟨by rw [he]; simp [h3], rfl⟩, Ext.refl _, by rw [h1]; rfl, h4, by obtain ⟨o, e⟩ := h2; rw [e]; rfl, fun e => by obtain ⟨o, e'⟩ := h2; rw [e'] at e; cases e⟩
    | some l =>
      rw [hl] at h
      have := T.ret_some h
      subst this
      obtain ⟨w', h1 | h1⟩ := run_storeVar_rel (P := P) H hl hr' (hr y)
      · refine ⟨Go.undef, w', ρ, .inr ⟨by rw [he]; simp [h1.1], rfl⟩, Ext.refl _, rfl, h1.2.1, h1.2.2.1, fun e => absurd e h1.2.2.2⟩
      · obtain ⟨h1, h2⟩ := h1
        subst h2
        exact ⟨Go.undef, w, ρ, .inr ⟨by rw [he]; simp [h1], rfl⟩, Ext.refl _, rfl, H, rfl, fun _ => ⟨rfl, rfl⟩⟩
  case nilCheck x =>
    simp only [opA] at h
    have hx := hr x
    generalize evalA s.slots x = X at *
    cases X <;> (try simp only [] at h) <;> first | (cases h; done) | skip
    have := T.ret_some h
    subst this
    obtain ⟨r, hr', hx⟩ := hx
    exact Does.same H (v := a.eval x) (by simp [execOp, hx]) ⟨r, hr', hx⟩
  case binOp op t x y yt =>
    exact does_pure H h (sem := do eqGuard op t x y (a.eval x) (a.eval y); binOp op t (a.eval x) (a.eval y)) rfl fun v hv => binA_sound hv (hr x) (hr y)
  case unOp op t x => exact does_pure H h (sem := Op.unary op (a.eval x)) rfl fun v hv => unA_sound hv (hr x)
  case convert p q x => exact does_pure H h (sem := convert p q (a.eval x)) rfl fun v hv => convA_sound hv (hr x)
  case makeFunc fn first captured =>
    have := T.ret_some h
    subst this
    exact Does.same H (v := .func fn (first.map a.eval) (captured.map a.eval)) (by simp [execOp, Instr.makeFunc]) ⟨_, _, rfl, by simpa using hrs first.toList, by simpa using hrs captured.toList⟩
  case fieldAddr t x i => exact does_pure H h (sem := Instr.fieldAt t (a.eval x) i) rfl fun v hv => fieldAddrA_sound hv (hr x)
  case field t x i => exact does_pure H h (sem := Instr.field t (a.eval x) i) rfl fun v hv => fieldA_sound hv (hr x)
  case indexAddr t x i => exact does_value H (sem := Instr.indexAt t (a.eval x) (a.eval i)) rfl (indexAddrA_sound (h := s.heap) h (hr x) (hr i))
  case index t x i => exact does_value H (sem := Instr.index t (a.eval x) (a.eval i)) rfl (indexA_sound h (hr x) (hr i))
  case extract x i =>
    simp only [opA] at h
    have hx := hr x
    generalize evalA s.slots x = X at *
    cases X <;> (try simp only [] at h) <;> first | (cases h; done) | skip
    rename_i vs
    obtain ⟨us, hx, hv⟩ := hx
    cases hi : vs[i]? with
    | none => rw [hi] at h; cases h
    | some y =>
      rw [hi] at h
      have := T.ret_some h
      subst this
      obtain ⟨u, h1, h2⟩ := hv.get hi
      have h1' : us[i]? = some u := by simpa using h1
      exact Does.same H (v := u) (by simp [execOp, Instr.extract, hx, h1']) h2
  case call c =>
    obtain ⟨cal, args, argTypes⟩ := c
    cases cal with
    | value f => cases h
    | invoke r m => cases h
    | builtin b =>
      have hargs : VRels ρ (args.toList.map (evalA s.slots)) (args.map a.eval).toList := by simpa using hrs args.toList
      cases b <;> first | (cases h; done) | skip
      case len =>
        refine does_pure H h (sem := Builtin.len_ argTypes type (args.map a.eval)) ?_ fun v hv => lenA_sound hv hargs
        simp [execOp, resolve, invoke, builtin]
      case min =>
        simp only [opA] at h
        cases hl : args.toList.map (evalA s.slots) with
        | nil => rw [hl] at h; cases h
        | cons x l =>
          rw [hl] at h hargs
          obtain ⟨u, us, e, hu, hus⟩ := hargs
          refine does_pure H h (sem := Builtin.min_ argTypes type (args.map a.eval)) (by simp [execOp, resolve, invoke, builtin]) fun v hv => ?_
          obtain ⟨r, h1, h2⟩ := min_run (P := P) (w := w) false l us x v u hv hu hus
          exact ⟨r, by rw [Builtin.min_, e]; exact h1, h2⟩
      case max =>
        simp only [opA] at h
        cases hl : args.toList.map (evalA s.slots) with
        | nil => rw [hl] at h; cases h
        | cons x l =>
          rw [hl] at h hargs
          obtain ⟨u, us, e, hu, hus⟩ := hargs
          refine does_pure H h (sem := Builtin.max_ argTypes type (args.map a.eval)) (by simp [execOp, resolve, invoke, builtin]) fun v hv => ?_
          obtain ⟨r, h1, h2⟩ := min_run (P := P) (w := w) true l us x v u hv hu hus
          exact ⟨r, by rw [Builtin.max_, e]; exact h1, h2⟩
end
end Go.Proofs.Ytngcbpcfgolifaa.Ev
