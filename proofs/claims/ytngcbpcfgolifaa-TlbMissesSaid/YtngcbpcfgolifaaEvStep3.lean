/- All operations that are no calls of Go functions: sound. -/
import Derived.Test.YtngcbpcfgolifaaEvStep2
namespace Go.Proofs.Ytngcbpcfgolifaa.Ev
open Go.RowKit
set_option linter.unusedVariables false
set_option linter.unusedSimpArgs false
section
variable {P : Program} {ρ : List Rb} {w0 w : World} {own : List Nat} {s : St DC} {a : Act}

theorem run_places (w : World) : ∀ fs : List Field, (fs.all (fun f => match sizeT P f.type with
      | some _ => true
      | none => false)) = true → (fs.mapM (fun f => do pure (f.offset, ← sizeOf f.type) : Field → Sem (Nat × Nat))).run P w = .ok (fs.map fun f => (f.offset, (sizeT P f.type).getD 0)) w
  | [], _ => rfl
  | f :: fs, h => by
    simp only [List.all_cons, Bool.and_eq_true] at h
    cases hs : sizeT P f.type with
    | none => rw [hs] at h; cases h.1
    | some n =>
      have := run_places w fs h.2
      simp only [List.mapM_cons, Sem.run_bind, run_sizeT hs, Result.andThen_ok, Sem.run_pure, this, List.map_cons, hs, Option.getD_some]

theorem ofVal_live (v : Value) : True := trivial

theorem zero_cells {z : AV DC} {v : Value} (h : z = ofVal v) (hl : z.live = true) : VRels ρ z.cellsA v.cells.toList := by
  subst h
  exact cells_rel (ofVal_rel v) (by rintro e; rw [e] at hl; simp [AV.live] at hl)

theorem buildA_sound {t : TypeId} {ps : List (Nat × AV DC)} {qs : List (Nat × Value)} {z : AV DC} (h : (buildA P t ps).pick = some z) (h1 : ps.map (·.1) = qs.map (·.1)) (h2 : VRels ρ (ps.map (·.2)) (qs.map (·.2))) :
    ∃ r, (Instr.build t qs.toArray).run P w = .ok r w ∧ VRel ρ z r := by
  unfold buildA at h
  cases hz : (zeroT P t : Option (AV DC)) with
  | none => rw [hz] at h; cases h
  | some z0 =>
    obtain ⟨v0, hv0, e0⟩ := run_zeroT (P := P) hz w
    rw [hz] at h
    cases hu : P.underlying t with
    | none => rw [hu] at h; cases h
    | some T =>
      rw [hu] at h
      simp only [] at h
      split at h
      · rename_i hlive
        have hc0 := zero_cells (ρ := ρ) e0 hlive
        cases T <;> simp only [] at h <;> first | (cases h; done) | skip
        · rename_i len e
          cases hs : sizeT P e with
          | none => rw [hs] at h; cases h
          | some sz =>
            rw [hs] at h
            simp only [] at h
            cases hf : fillA (fun i => some (i * sz, sz)) z0.cellsA ps with
            | none => rw [hf] at h; cases h
            | some l =>
              rw [hf] at h
              have := T.ret_some h
              subst this
              obtain ⟨vs, h3, h4⟩ := fill_rel ps qs _ _ l hf hc0 h1 h2
              refine ⟨.agg vs, ?_, vs, rfl, h4⟩
              simp only [Instr.build, Sem.run_bind, hv0, Result.andThen_ok, run_underlying hu, run_sizeT hs, h3, Sem.run_pure]
        · rename_i fs
          split at h
          · rename_i hall
            cases hf : fillA (structPlace P fs) z0.cellsA ps with
            | none => rw [hf] at h; cases h
            | some l =>
              rw [hf] at h
              have := T.ret_some h
              subst this
              have hp : (fun i => (fs.map fun f => (f.offset, (sizeT P f.type).getD 0))[i]?) = structPlace P fs := by
                funext i
                unfold structPlace
                rw [Array.getElem?_map]
                cases hi : fs[i]? with
                | none => rfl
                | some f =>
                  have hm : f ∈ fs.toList := by
                    have := Array.mem_of_getElem? hi
                    simpa using this
                  have := List.all_eq_true.1 hall f hm
                  cases hs : sizeT P f.type with
                  | none => rw [hs] at this; cases this
                  | some n => simp [hs]
              obtain ⟨vs, h3, h4⟩ := fill_rel ps qs _ _ l hf hc0 h1 h2
              refine ⟨.agg vs, ?_, vs, rfl, h4⟩
              have hpl : (fs.mapM (fun f => do pure (f.offset, ← sizeOf f.type) : Field → Sem (Nat × Nat))).run P w = .ok (fs.map fun f => (f.offset, (sizeT P f.type).getD 0)) w := by
                rw [Array.mapM_eq_mapM_toList, Sem.run_map, run_places w fs.toList hall]
                simp only [Result.andThen_ok]
                congr 1
                apply Array.ext'
                simp
              simp only [Instr.build, Sem.run_bind, hv0, Result.andThen_ok, run_underlying hu]
              rw [hpl]
              simp only [Result.andThen_ok, hp, h3, Sem.run_pure]
          · cases h
      · cases h

theorem lenA_sound {ts : Array TypeId} {ty : TypeId} {xs : List (AV DC)} {us : Array Value} {z : AV DC} (h : (lenA P ts xs).pick = some z) (hx : VRels ρ xs us.toList) : ∃ r, (Builtin.len_ ts ty us).run P w = .ok r w ∧ VRel ρ z r := by
  unfold lenA at h
  cases ht : ts[0]? with
  | none => rw [ht] at h; cases h
  | some t =>
    rw [ht] at h
    match xs, h, hx with
    | [x], h, ⟨u, l, e, hu, hl⟩ =>
      have hl' : l = [] := hl
      subst hl'
      have h0 : us[0]? = some u := by
        have : us.toList[0]? = some u := by rw [e]; rfl
        simpa using this
      simp only [] at h
      cases hd : P.underlying t with
      | none => rw [hd] at h; cases h
      | some T =>
        rw [hd] at h
        cases T <;> cases x <;> (try simp only [] at h) <;> first | (cases h; done) | skip
        all_goals first
          | (have := T.ret_some h
             subst this
             refine ⟨_, ?_, rfl⟩
             first
               | (obtain ⟨r, hr, a, c, rfl, hcap⟩ := hu; simp [Builtin.len_, ht, h0, run_underlying hd, goInt, AI.den])
               | (obtain ⟨s, rfl, hs⟩ := hu; simp [Builtin.len_, ht, h0, run_underlying hd, goInt, AI.den, hs.1]; rfl)
               | (obtain ⟨r, hr, rfl⟩ := hu; simp [Builtin.len_, ht, h0, run_underlying hd, goInt, AI.den])
               | (cases hu; simp [Builtin.len_, ht, h0, run_underlying hd, goInt, AI.den])
               | (simp [Builtin.len_, ht, h0, run_underlying hd, goInt, AI.den]))
          | skip
        rename_i b off len cap
        obtain ⟨r, hr, a, c, rfl, hcap⟩ := hu
        split at h
        all_goals first | (cases h; done) | skip
        all_goals first | (rename_i h1 h2; cases h1; done) | (rename_i h1 h2; cases h2; done) | (rename_i h1; cases h1; done) | skip
        · rename_i h1 h2
          cases h1; cases h2
          have := T.ret_some h
          subst this
          exact ⟨_, by simp [Builtin.len_, ht, h0, run_underlying hd, goInt, AN.den]; rfl, rfl⟩
        · rename_i h1 h2
          cases h1; cases h2
          have := T.ret_some h
          subst this
          exact ⟨_, by simp [Builtin.len_, ht, h0, run_underlying hd, goInt, AN.den]; rfl, rfl⟩

theorem minmax_eq (mx : Bool) {p q p' q' : Int} (hp : p' = p) (hq : q' = q) : (bif mx then (if q > p then q else p) else (if q < p then q else p)) = bif (bif mx then litCmp .gtr q' p' else litCmp .lss q' p') then q' else p' := by
  subst hp hq
  cases mx
  · simp only [cond_false, litCmp]
    by_cases hpq : q' < p' <;> simp [hpq]
  · simp only [cond_true, litCmp]
    by_cases hpq : q' > p' <;> simp [hpq]

theorem min2_run (mx : Bool) {x y z : AV DC} {u v : Value} (h : min2A mx x y = some z) (hx : VRel ρ x u) (hy : VRel ρ y v) :
    ∃ r, (bif mx then Builtin.max2 u v else Builtin.min2 u v).run P w = .ok r w ∧ VRel ρ z r := by
  unfold min2A at h
  split at h
  · rename_i k a k' b
    cases hx; cases hy
    split at h
    · rename_i hk
      have hk' : k = k' := by simpa using hk
      subst hk'
      have ha : (a.val : Int) = a.den := AI.val_den a
      have hb : (b.val : Int) = b.den := AI.val_den b
      refine ⟨.int k (bif mx then (if b.den > a.den then b.den else a.den) else (if b.den < a.den then b.den else a.den)), ?_, ?_⟩
      · cases mx <;> rfl
      · split at h
        · cases h
          cases mx <;> rfl
        · cases h
          exact congrArg (Value.int k) (minmax_eq mx ha hb)
    · cases h
  · cases h

theorem min_run (mx : Bool) : ∀ (l : List (AV DC)) (us : List Value) (x z : AV DC) (u : Value), (minA (D := DC) mx x l).pick = some z → VRel ρ x u → VRels ρ l us → ∃ r, (us.foldlM (if mx then Builtin.max2 else Builtin.min2) u).run P w = .ok r w ∧ VRel ρ z r
  | [], us, x, z, u, h, hx, hl => by
    rw [show us = [] from hl]
    have := T.ret_some h
    subst this
    exact ⟨u, rfl, hx⟩
  | y :: l, _, x, z, u, h, hx, ⟨v, vs, rfl, hv, hvs⟩ => by
    simp only [minA] at h
    cases hm : min2A mx x y with
    | none => rw [hm] at h; cases h
    | some q =>
      rw [hm] at h
      obtain ⟨r, h1, h2⟩ := min2_run (P := P) (w := w) mx hm hx hv
      obtain ⟨r', h3, h4⟩ := min_run mx l vs q z r h h2 hvs
      refine ⟨r', ?_, h4⟩
      simp only [List.foldlM_cons, Sem.run_bind]
      have : ((if mx then Builtin.max2 else Builtin.min2) u v).run P w = .ok r w := by cases mx <;> exact h1
      rw [this]
      exact h3

theorem does_same {o : Oper} {x : AV DC} {l : List (W DC)} (H : WR w0 own ρ s.heap w) (hl : l = []) (hv : ∃ v, (execOp a.eval o).run P w = .ok (.value v) w ∧ VRel ρ x v) : Does P w0 own ρ s a w o (x, l) := by
  subst hl
  obtain ⟨v, h1, h2⟩ := hv
  exact Does.same H h1 h2

theorem pure_some {t : T DC (AV DC)} {z : AV DC × List (W DC)} (h : (pureT t).pick = some z) : t.pick = some z.1 ∧ z.2 = [] := by
  obtain ⟨v, h1, h2⟩ := T.bind_some h
  have := T.ret_some h2
  subst this
  exact ⟨h1, rfl⟩

theorem colA_rel (k : CK) (f : Nat → Int) (x : Nat) : VRel ρ (colA (D := DC) k f x) (k.val (f x)) := by
  cases k <;> rfl

theorem rowVals_rel {x : Nat} : ∀ (fs : List (CK × (Nat → Int))) (vs : List Value), vs.length = fs.length → (∀ (c : Nat) k f, fs[c]? = some (k, f) → vs[c]? = some (k.val (f x))) → VRels ρ (rowVals (D := DC) x fs) vs
  | [], vs, h, _ => by
    have : vs = [] := List.eq_nil_of_length_eq_zero (by simpa using h)
    subst this
    rfl
  | (k, f) :: fs, [], h, _ => by simp at h
  | (k, f) :: fs, v :: vs, h, H => by
    refine ⟨v, vs, rfl, ?_, rowVals_rel fs vs (by simpa using h) fun c k' f' hc => by simpa using H (c + 1) k' f' (by simpa using hc)⟩
    have := H 0 k f rfl
    simp only [List.getElem?_cons_zero, Option.some.injEq] at this
    rw [this]
    exact colA_rel k f x

theorem rowAt_den {w : Nat} {off : AN DC} {x c : Nat} (h : (rowAt w off : Option (Nat × Nat)) = some (x, c)) : off.den = x * w + c := by
  cases off with
  | lit m =>
    simp only [rowAt] at h
    split at h
    · cases h
    · cases h
      have := Nat.div_add_mod m w
      rw [Nat.mul_comm] at this
      exact this.symm
  | rc y v d =>
    simp only [rowAt] at h
    split at h
    · rename_i hw
      have := Nat.eq_of_beq_eq_true hw
      subst this
      split at h
      · cases h
        rfl
      · split at h
        · cases h
        · cases h
          have := Nat.div_add_mod d v
          show nN y * v + d = (nN y + d / v) * v + d % v
          rw [Nat.add_mul, Nat.add_assoc, Nat.mul_comm (d / v) v, this]
    · cases h

theorem rowsOf_rel {h : List (AO DC)} (H : WR w0 own ρ h w) {b n : Nat} {fs : List (CK × (Nat → Int))} (hb : (rowsOf h b : Option (Nat × List (CK × (Nat → Int)))) = some (n, fs)) (hn0 : 0 < n) {r : Rb} (hr : ρ[b]? = some r) :
    ∃ vs t fz, w.heap[r.1]? = some (.cells vs t fz) ∧ RowsRel r.2.2 n fs vs := by
  unfold rowsOf at hb
  split at hb
  · rename_i t m gs ho
    cases hb
    exact H.obj _ _ _ ho hr hn0
  · rename_i t m gs ho
    cases hb
    obtain ⟨vs, h1, h2, h3⟩ := H.obj _ _ _ ho hr
    exact ⟨vs, t, (0, 0), h1, by rw [h2.2]; exact h3⟩
  · cases hb

theorem loadRow_sound {t : TypeId} {b : Nat} {off : AN DC} {z : AV DC × List (W DC)} (H : WR w0 own ρ s.heap w) (h : (loadRow P s.heap t b off).pick = some z) {r : Rb} (hr : ρ[b]? = some r) :
    z.2 = [] ∧ ∃ v, (loadVar t (r.ad off.den)).run P w = .ok v w ∧ VRel ρ z.1 v := by
  unfold loadRow at h
  cases hro : (rowsOf s.heap b : Option (Nat × List (CK × (Nat → Int)))) with
  | none => rw [hro] at h; cases h
  | some nf =>
    obtain ⟨n, fs⟩ := nf
    rw [hro] at h
    simp only [] at h
    cases hra : (rowAt fs.length off : Option (Nat × Nat)) with
    | none => rw [hra] at h; cases h
    | some xc =>
      obtain ⟨x, c⟩ := xc
      rw [hra] at h
      simp only [] at h
      have hden := rowAt_den hra
      cases hg : isAggT P t with
      | none => rw [hg] at h; cases h
      | some g =>
        rw [hg] at h
        cases g with
        | false =>
          simp only [] at h
          cases hc : fs[c]? with
          | none => rw [hc] at h; cases h
          | some kf =>
            obtain ⟨k, f⟩ := kf
            rw [hc] at h
            rcases T.br_some h with ⟨h1, h2⟩ | ⟨_, h2⟩
            · have := T.ret_some h2
              subst this
              have hx : x < n := of_decide_eq_true h1
              obtain ⟨vs, t0, fz, hvs, hcell⟩ := rowsOf_rel H hro (Nat.lt_of_le_of_lt (Nat.zero_le _) hx) hr
              have hc' := hcell x c k f hx hc
              refine ⟨rfl, _, ?_, colA_rel k f x⟩
              simp only [loadVar, Sem.run_bind, run_isAggT hg, Result.andThen_ok, Bool.false_eq_true, if_false]
              apply run_load_cell
              rw [Rb.ad, cell_of_row w r.1 _ vs t0 fz hvs, hden]
              exact hc'
            · cases h2
        | true =>
          simp only [] at h
          cases hs : sizeT P t with
          | none => rw [hs] at h; cases h
          | some sz =>
            rw [hs] at h
            simp only [] at h
            split at h
            · rename_i hle
              have hle' := Nat.le_of_ble_eq_true hle
              rcases T.br_some h with ⟨h1, h2⟩ | ⟨_, h2⟩
              · have := T.ret_some h2
                subst this
                have hx : x < n := of_decide_eq_true h1
                obtain ⟨vs, t0, fz, hvs, hcell⟩ := rowsOf_rel H hro (Nat.lt_of_le_of_lt (Nat.zero_le _) hx) hr
                have hat : ∀ (j : Nat) k f, ((fs.drop c).take sz)[j]? = some (k, f) → vs[r.2.2 + (x * fs.length + (c + j))]? = some (k.val (f x)) := fun j k f hj => by
                  rw [List.getElem?_take] at hj
                  split at hj
                  · rw [List.getElem?_drop] at hj
                    exact hcell x (c + j) k f hx hj
                  · cases hj
                have hfl : ((fs.drop c).take sz).length = sz := by simp; omega
                have hlen : ((vs.toList.drop (r.2.2 + off.den)).take sz).length = sz := by
                  rcases Nat.eq_zero_or_pos sz with h0 | h0
                  · simp [h0]
                  · have hlt : sz - 1 < ((fs.drop c).take sz).length := by omega
                    obtain ⟨k, f, hkf⟩ : ∃ k f, ((fs.drop c).take sz)[sz - 1]? = some (k, f) := ⟨_, _, List.getElem?_eq_getElem hlt⟩
                    have := hat (sz - 1) k f hkf
                    have := (Array.getElem?_eq_some_iff.1 this).1
                    simp
                    omega
                refine ⟨rfl, .agg (((vs.toList.drop (r.2.2 + off.den)).take sz).toArray), ?_, _, rfl, ?_⟩
                · have hl := run_loadCells_list (P := P) (w := w) (r.ad off.den) ((vs.toList.drop (r.2.2 + off.den)).take sz) fun j v hj => by
                    rw [Rb.ad_add, Rb.ad, cell_of_row w r.1 _ vs t0 fz hvs, ← Nat.add_assoc]
                    rw [List.getElem?_take] at hj
                    split at hj
                    · rw [List.getElem?_drop] at hj
                      simpa using hj
                    · cases hj
                  rw [hlen] at hl
                  simp only [loadVar, Sem.run_bind, run_isAggT hg, Result.andThen_ok, if_true, run_sizeT hs]
                  rw [hl]
                  rfl
                · have : VRels ρ (rowVals (D := DC) x ((fs.drop c).take sz)) ((vs.toList.drop (r.2.2 + off.den)).take sz) := by
                    refine rowVals_rel _ _ (by rw [hlen, hfl]) fun j k f hj => ?_
                    have hlt : j < sz := by have := (List.getElem?_eq_some_iff.1 hj).1; omega
                    rw [List.getElem?_take, if_pos hlt, List.getElem?_drop, hden]
                    have := hat j k f hj
                    simpa [Nat.add_assoc] using this
                  simpa using this
              · cases h2
            · cases h

theorem cellI_rel {k : CK} {v : AV DC} {n : Int} (h : (cellI k v : Option Int) = some n) {u : Value} (hv : VRel ρ v u) : u = k.val n := by
  unfold cellI at h
  split at h
  · rename_i k k' m
    split at h
    · rename_i hk
      have hk' : k = k' := by simpa using hk
      subst hk'
      simp only [Option.some.injEq] at h
      subst h
      rw [show u = _ from hv]
      exact congrArg (Value.int k) (AI.val_den m).symm
    · cases h
  · rename_i b
    simp only [Option.some.injEq] at h
    subst h
    rw [show u = _ from hv]
    cases b <;> rfl
  · rename_i b
    simp only [Option.some.injEq] at h
    subst h
    rw [show u = _ from hv]
    change Value.bool b = CK.val .bool (cond b 1 0)
    cases (b : Bool) <;> rfl
  · cases h

theorem setRow_len {x : Nat} : ∀ (fs : List (CK × (Nat → Int))) (c : Nat) (l : List (AV DC)) (gs : List (CK × (Nat → Int))), (setRow (D := DC) x fs c l : Option _) = some gs → gs.length = fs.length ∧ c + l.length ≤ max c fs.length
  | fs, c, [], gs, h => by
    cases fs <;> cases c <;> simp only [setRow, Option.some.injEq] at h <;> subst h <;> simp <;> omega
  | [], c, _ :: _, gs, h => by cases c <;> simp [setRow] at h
  | (k, f) :: fs, 0, v :: l, gs, h => by
    simp only [setRow] at h
    split at h
    · rename_i n r h1 h2
      cases h
      have := setRow_len fs 0 l r h2
      simp at this ⊢
      omega
    · cases h
  | (k, f) :: fs, c + 1, v :: l, gs, h => by
    simp only [setRow] at h
    split at h
    · rename_i r h1
      cases h
      have := setRow_len fs c (v :: l) r h1
      simp at this ⊢
      omega
    · cases h

/-- The rows behind a store of some fields of one row. -/
theorem setRow_spec {x : Nat} : ∀ (fs : List (CK × (Nat → Int))) (c : Nat) (l : List (AV DC)) (gs : List (CK × (Nat → Int))) (us : List Value), (setRow (D := DC) x fs c l : Option _) = some gs → VRels ρ l us →
    ∀ (j : Nat) k g, gs[j]? = some (k, g) → ∃ f, fs[j]? = some (k, f) ∧ (∀ i, i ≠ x → g i = f i) ∧ (j < c ∨ c + l.length ≤ j → g x = f x) ∧ (c ≤ j → j < c + l.length → us[j - c]? = some (k.val (g x)))
  | fs, c, [], gs, us, h, hv, j, k, g, hj => by
    have e : gs = fs := by cases fs <;> cases c <;> simp only [setRow, Option.some.injEq] at h <;> exact h.symm
    subst e
    exact ⟨g, hj, fun _ _ => rfl, fun _ => rfl, fun h1 h2 => by simp at h2; omega⟩
  | [], c, _ :: _, gs, us, h, hv, j, k, g, hj => by cases c <;> simp [setRow] at h
  | (k0, f0) :: fs, 0, v :: l, gs, us, h, hv, j, k, g, hj => by
    simp only [setRow] at h
    split at h
    · rename_i n r h1 h2
      cases h
      obtain ⟨u, us', rfl, hu, hus⟩ := hv
      cases j with
      | zero =>
        simp only [List.getElem?_cons_zero, Option.some.injEq, Prod.mk.injEq] at hj
        obtain ⟨rfl, rfl⟩ := hj
        refine ⟨f0, rfl, fun i hi => if_neg hi, fun h => by simp at h, fun _ _ => ?_⟩
        have := cellI_rel h1 hu
        subst this
        simp
      | succ j =>
        obtain ⟨f, g1, g2, g3, g4⟩ := setRow_spec fs 0 l r us' h2 hus j k g (by simpa using hj)
        refine ⟨f, by simpa using g1, g2, fun h => g3 (by simp at h ⊢; omega), fun h1 h2 => ?_⟩
        have := g4 (Nat.zero_le _) (by simp at h2 ⊢; omega)
        simpa using this
    · cases h
  | (k0, f0) :: fs, c + 1, v :: l, gs, us, h, hv, j, k, g, hj => by
    simp only [setRow] at h
    split at h
    · rename_i r h1
      cases h
      cases j with
      | zero =>
        simp only [List.getElem?_cons_zero, Option.some.injEq, Prod.mk.injEq] at hj
        obtain ⟨rfl, rfl⟩ := hj
        exact ⟨f0, rfl, fun _ _ => rfl, fun _ => rfl, fun h => by omega⟩
      | succ j =>
        obtain ⟨f, g1, g2, g3, g4⟩ := setRow_spec fs c (v :: l) r us h1 hv j k g (by simpa using hj)
        refine ⟨f, by simpa using g1, g2, fun h => g3 (by simp at h ⊢; omega), fun h1 h2 => ?_⟩
        have := g4 (by omega) (by simp at h2 ⊢; omega)
        rwa [show j + 1 - (c + 1) = j - c by omega]
    · cases h
end
end Go.Proofs.Ytngcbpcfgolifaa.Ev
