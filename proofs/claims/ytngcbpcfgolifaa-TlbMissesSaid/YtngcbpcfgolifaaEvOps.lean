/- Each operation that is no call of a Go function does what its abstract counterpart tells. -/
import Derived.Test.YtngcbpcfgolifaaEvRel
namespace Go.Proofs.Ytngcbpcfgolifaa.Ev
open Go.RowKit
set_option linter.unusedVariables false
set_option linter.unusedSimpArgs false

/-- The operation comes to this value (or to none, 'undef') in this world. -/
def Runs (P : Program) (a : Act) (o : Oper) (w : World) (v : Value) (w' : World) : Prop :=
  (execOp a.eval o).run P w = .ok (.value v) w' ∨ ((execOp a.eval o).run P w = .ok .skip w' ∧ v = Go.undef)

theorem Runs.wp {P : Program} {a : Act} {o : Oper} {w w' : World} {v : Value} (h : Runs P a o w v w') {K : Act → World → Prop} {Q : Exit → Act → World → Prop} (hk : K (a.put o.dst v) w') : o.wp P a w K Q := by
  unfold Oper.wp
  rcases h with h | ⟨h, rfl⟩
  · rw [h, Oper.upon_value]; exact hk
  · rw [h, Oper.upon_skip]; exact hk

section
variable {P : Program} {ρ : List Rb} {w0 w : World} {own : List Nat} {s : St DC} {a : Act}

/-- What an operation's writes and value amount to. -/
def Does (P : Program) (w0 : World) (own : List Nat) (ρ : List Rb) (s : St DC) (a : Act) (w : World) (o : Oper) (r : AV DC × List (W DC)) : Prop :=
  ∃ v w' ρ', Runs P a o w v w' ∧ Ext ρ ρ' ∧ VRel ρ' r.1 v ∧ WR w0 own ρ' (s.apps r.2).heap w' ∧ (s.apps r.2).slots = s.slots ∧ (r.2 = [] → w' = w ∧ ρ' = ρ)

theorem Does.same {o : Oper} {x : AV DC} {v : Value} (H : WR w0 own ρ s.heap w) (h : (execOp a.eval o).run P w = .ok (.value v) w) (hv : VRel ρ x v) : Does P w0 own ρ s a w o (x, []) :=
  ⟨v, w, ρ, .inl h, Ext.refl _, hv, H, rfl, fun _ => ⟨rfl, rfl⟩⟩

theorem run_typeInfo {t : TypeId} {i : TypeInfo} (h : P.info? t = some i) (w : World) : (typeInfo t).run P w = .ok i w := by
  simp [typeInfo, h]
theorem run_sizeT {t : TypeId} {n : Nat} (h : sizeT P t = some n) (w : World) : (sizeOf t).run P w = .ok n w := by
  unfold sizeT at h
  split at h
  · rename_i i hi
    cases h
    simp [sizeOf, run_typeInfo hi]
  · cases h
theorem run_isAggT {t : TypeId} {b : Bool} (h : isAggT P t = some b) (w : World) : (isAgg t).run P w = .ok b w := by
  unfold isAggT at h
  cases hu : P.underlying t with
  | none => rw [hu] at h; cases h
  | some d =>
    rw [hu] at h
    simp only [isAgg, Sem.run_bind, run_underlying hu, Result.andThen_ok]
    cases d <;> cases h <;> rfl
theorem run_zeroT {t : TypeId} {z : AV DC} (h : zeroT P t = some z) (w : World) : ∃ v, (zeroValue t).run P w = .ok v w ∧ z = ofVal v := by
  unfold zeroT at h
  split at h
  · rename_i i hi
    split at h
    · rename_i v hv
      cases h
      exact ⟨v, by simp [zeroValue, run_typeInfo hi, hv], rfl⟩
    · cases h
  · cases h

/-! ### Memory -/
theorem add_lit (r off n : Nat) : (⟨r, off, none⟩ : Addr).add n = ⟨r, off + n, none⟩ := by
  unfold Addr.add
  split
  · rename_i h; simp [h]
  · rfl

theorem cell_of_rel {h : List (AO DC)} (H : WR w0 own ρ h w) {b : Nat} {r : Rb} {t : TypeId} {cs : List (AV DC)} (hb : h[b]? = some (.cells t cs)) (hr : ρ[b]? = some r) {i : Nat} {x : AV DC} (hx : cs[i]? = some x) :
    ∃ v, w.cell? (r.ad i) = some v ∧ VRel ρ x v := by
  obtain ⟨vs, hvs, hsz, hrel⟩ := H.obj _ _ _ hb hr
  obtain ⟨v, hv, hxv⟩ := hrel.get hx
  rw [List.getElem?_take] at hv
  split at hv
  · exact ⟨v, by rw [Rb.ad_own hsz, cell_of_row w r.1 i vs t (0, 0) hvs]; simpa using hv, hxv⟩
  · cases hv

theorem load1_run {h : List (AO DC)} (H : WR w0 own ρ h w) {b : Nat} {off : AN DC} {x : AV DC} (hx : load1 h b off = some x) {r : Rb} (hr : ρ[b]? = some r) :
    ∃ v, w.cell? (r.ad off.den) = some v ∧ VRel ρ x v := by
  unfold load1 at hx
  cases hb : h[b]? with
  | none => rw [hb] at hx; cases off <;> cases hx
  | some o =>
    rw [hb] at hx
    cases o <;> cases off <;> first | (cases hx; done) | skip
    exact cell_of_rel H hb hr hx

theorem run_load_cell {b : Addr} {v : Value} (h : w.cell? b = some v) (m : Mode) : (load b m).run P w = .ok v w := by
  rw [run_load, h]

theorem run_loadCells_rel {h : List (AO DC)} (H : WR w0 own ρ h w) {b n sz : Nat} {r : Rb} {t : TypeId} {cs : List (AV DC)} (hb : h[b]? = some (.cells t cs)) (hr : ρ[b]? = some r) (hl : n + sz ≤ cs.length) :
    ∃ vs : Array Value, (loadCells (r.ad n) sz).run P w = .ok vs w ∧ VRels ρ ((cs.drop n).take sz) vs.toList := by
  obtain ⟨vs, hvs, hsz, hrel⟩ := H.obj _ _ _ hb hr
  have hlen' : cs.length ≤ vs.size := by simpa using hrel.le
  have hcut : ((vs.toList.take cs.length).drop n).take sz = (vs.toList.drop n).take sz := by
    rw [List.drop_take, List.take_take]
    congr 1
    omega
  refine ⟨((vs.toList.drop n).take sz).toArray, ?_, by simpa [hcut] using (hrel.drop n).take sz⟩
  have := run_loadCells_list (P := P) (w := w) (r.ad n) ((vs.toList.drop n).take sz) fun j v hj => by
    rw [Rb.ad_add, Rb.ad_own hsz, cell_of_row w r.1 (n + j) vs t (0, 0) hvs]
    rw [List.getElem?_take] at hj
    split at hj
    · rw [List.getElem?_drop] at hj
      simpa using hj
    · cases hj
  rw [show ((vs.toList.drop n).take sz).length = sz by simp; omega] at this
  exact this

theorem run_loadVar_rel {h : List (AO DC)} (H : WR w0 own ρ h w) {t : TypeId} {b : Nat} {off : AN DC} {x : AV DC} (hx : loadA P h t b off = some x) {r : Rb} (hr : ρ[b]? = some r) :
    ∃ v, (loadVar t (r.ad off.den)).run P w = .ok v w ∧ VRel ρ x v := by
  unfold loadA at hx
  cases ha : isAggT P t with
  | none => rw [ha] at hx; cases hx
  | some g =>
    rw [ha] at hx
    cases g with
    | false =>
      obtain ⟨v, hv, hr'⟩ := load1_run H hx hr
      exact ⟨v, by simp only [loadVar, Sem.run_bind, run_isAggT ha, Result.andThen_ok, Bool.false_eq_true, if_false]; exact run_load_cell hv _, hr'⟩
    | true =>
      simp only [] at hx
      cases hs : sizeT P t with
      | none => rw [hs] at hx; cases hx
      | some sz =>
        rw [hs] at hx
        cases hb : h[b]? with
        | none => rw [hb] at hx; cases hx
        | some o =>
          rw [hb] at hx
          cases o <;> cases off <;> first | (cases hx; done) | skip
          rename_i e cs n
          simp only [] at hx
          split at hx
          · rename_i hle
            cases hx
            obtain ⟨vs, h1, h2⟩ := run_loadCells_rel (P := P) H hb hr (Nat.le_of_ble_eq_true hle)
            refine ⟨.agg vs, ?_, vs, rfl, h2⟩
            simp only [loadVar, Sem.run_bind, run_isAggT ha, Result.andThen_ok, if_true, run_sizeT hs]
            rw [show (AN.lit n : AN DC).den = n from rfl, h1]
            rfl
          · cases hx

theorem oneCell_of {x : AV DC} {v : Value} (hv : VRel ρ x v) (h1 : x.one = true) : v.oneCell' = true := by
  cases x <;> simp only [VRel, AV.one, Bool.false_eq_true] at hv h1 <;> first
    | (subst hv; rfl)
    | (obtain ⟨r, _, rfl⟩ := hv; rfl)
    | (obtain ⟨r, _, a, c, rfl, _⟩ := hv; rfl)
    | (obtain ⟨s, rfl, _⟩ := hv; rfl)
    | (obtain ⟨f', c', rfl, _⟩ := hv; rfl)

theorem storeCells_rel {t : TypeId} : ∀ (l : List (AV DC)) (vs : List Value) (i : Nat) {h : List (AO DC)} {w : World} {b n : Nat} {r : Rb} {cs : List (AV DC)}, WR w0 own ρ h w → h[b]? = some (.cells t cs) → ρ[b]? = some r →
      n + i + l.length ≤ cs.length → l.all (·.one) = true → VRels ρ l vs →
      ∃ w', (storeCells (r.ad n) vs i).run P w = .ok () w' ∧ WR w0 own ρ (({ slots := [], heap := h } : St DC).apps (cellWrites b (n + i) l)).heap w'
  | [], vs, i, h, w, b, n, r, cs, H, hb, hr, hl, h1, hv => by
    rw [show vs = [] from hv]
    exact ⟨w, rfl, H⟩
  | x :: l, _, i, h, w, b, n, r, cs, H, hb, hr, hl, h1, ⟨v, vs, rfl, hv, hvs⟩ => by
    simp only [List.all_cons, Bool.and_eq_true] at h1
    simp only [List.length_cons] at hl
    obtain ⟨us, hus, hsz, hrel⟩ := H.obj _ _ _ hb hr
    have hlen : cs.length ≤ us.size := by simpa using hrel.le
    have hlt : n + i < us.size := by omega
    have hcell : w.cell? (r.ad (n + i)) = some us[n + i] := by
      rw [Rb.ad_own hsz, cell_of_row w r.1 (n + i) us t (0, 0) hus]
      exact Array.getElem?_eq_getElem (by omega)
    have hfz : w.frozen? (r.ad (n + i)) = false := by rw [Rb.ad_own hsz]; exact frozen_of_row w r.1 (n + i) us t hus
    have hst : (store (r.ad (n + i)) v).run P w = .ok () (w.setCell (r.ad (n + i)) v) := by
      rw [run_store P w _ v _ (oneCell_of hv h1.1), hcell]
      simp [hfz]
    have H' := H.setCell (i := n + i) hb hr hv
    have hb' : (setObj h b (n + i) x)[b]? = some (.cells t (cs.set (n + i) x)) := by rw [setObj_same, hb]; rfl
    have hl' : n + (i + 1) + l.length ≤ (cs.set (n + i) x).length := by simp; omega
    obtain ⟨w', hw', H2⟩ := storeCells_rel l vs (i + 1) H' hb' hr hl' h1.2 hvs
    refine ⟨w', ?_, ?_⟩
    · simp only [storeCells, Rb.ad_add, Sem.run_bind, hst, Result.andThen_ok]
      exact hw'
    · simpa [cellWrites, St.apps, St.app, Nat.add_assoc] using H2

theorem apps_slots_cellWrites (s : St DC) (b : Nat) : ∀ (l : List (AV DC)) (i : Nat), (s.apps (cellWrites b i l)).slots = s.slots
  | [], _ => rfl
  | x :: l, i => by simpa [cellWrites, St.apps, St.app] using apps_slots_cellWrites { s with heap := setObj s.heap b i x } b l (i + 1)

/-- Memory hangs on the writes to memory alone. -/
theorem apps_heap_congr : ∀ (l : List (W DC)) (s s' : St DC), s.heap = s'.heap → (s.apps l).heap = (s'.apps l).heap
  | [], _, _, h => h
  | .slot _ _ :: l, s, s', h => apps_heap_congr l _ _ h
  | .cell _ _ _ :: l, s, s', h => apps_heap_congr l _ _ (by simp [St.app, h])
  | .new _ :: l, s, s', h => apps_heap_congr l _ _ (by simp [St.app, h])
  | .obj _ _ :: l, s, s', h => apps_heap_congr l _ _ (by simp [St.app, h])

theorem run_storeVar_rel (H : WR w0 own ρ s.heap w) {t : TypeId} {b : Nat} {off : AN DC} {x : AV DC} {v : Value} {l : List (W DC)} (hx : storeA P s.heap t b off x = some l) {r : Rb} (hr : ρ[b]? = some r) (hv : VRel ρ x v) :
    ∃ w', (storeVar t (r.ad off.den) v).run P w = .ok () w' ∧ WR w0 own ρ (s.apps l).heap w' ∧ (s.apps l).slots = s.slots ∧ l ≠ [] ∨ (storeVar t (r.ad off.den) v).run P w = .ok () w ∧ l = [] := by
  unfold storeA at hx
  cases hs : sizeT P t with
  | none => rw [hs] at hx; cases hx
  | some sz =>
    rw [hs] at hx
    cases hb : s.heap[b]? with
    | none => rw [hb] at hx; cases hx
    | some o =>
      rw [hb] at hx
      cases o <;> cases off <;> first | (cases hx; done) | skip
      rename_i e cs n
      simp only [] at hx
      split at hx
      · rename_i hc
        cases hx
        simp only [Bool.and_eq_true] at hc
        have hlen := Nat.eq_of_beq_eq_true hc.1.1
        have hle := Nat.le_of_ble_eq_true hc.1.2
        have hd : x ≠ .dead := by
          rintro rfl
          have := hc.2
          simp [AV.cellsA, AV.one] at this
        have hcs := cells_rel hv hd
        obtain ⟨w', h1, h2⟩ := storeCells_rel (P := P) x.cellsA v.cells.toList 0 (n := n) H hb hr (by omega) hc.2 hcs
        have hsz : v.cells.size = sz := by
          have := hcs.length
          simp at this
          omega
        have hrun : (storeVar t (r.ad n) v).run P w = .ok () w' := by
          simp only [storeVar, Sem.run_bind, run_sizeT hs, Result.andThen_ok, hsz, ne_eq, not_true_eq_false, if_false]
          simpa using h1
        by_cases hne : x.cellsA = []
        · refine ⟨w, .inr ⟨?_, by rw [hne]; rfl⟩⟩
          have hvn : v.cells.toList = [] := by rw [hne] at hcs; exact hcs
          rw [hvn] at h1
          simp [storeCells] at h1
          rw [show (AN.lit n : AN DC).den = n from rfl, hrun, h1]
        · refine ⟨w', .inl ⟨hrun, ?_, apps_slots_cellWrites _ _ _ _, ?_⟩⟩
          · rw [apps_heap_congr _ s { slots := [], heap := s.heap } rfl]
            simpa using h2
          · cases hcl : x.cellsA with
            | nil => exact absurd hcl hne
            | cons y ys => simp [cellWrites]
      · cases hx

/-! ### Numbers -/
def opVal (op : BinOp) (k : IntKind) (a b : Int) : Value := if cmpOp op then .bool (litCmp op a b) else .int k (litBin op k a b)

theorem bin_run {t : TypeId} {op : BinOp} {k yk : IntKind} {a b : Int} (hk : op ≠ .shl → op ≠ .shr → yk = k) (h1 : op = .quo ∨ op = .rem → b ≠ 0) (h2 : op = .shl ∨ op = .shr → 0 ≤ b) (w : World) :
    (binOp op t (.int k a) (.int yk b)).run P w = .ok (opVal op k a b) w := by
  cases op <;> first
    | (have hk' := hk (by simp) (by simp)
       subst hk'
       first
       | (have h1' := h1 (by simp)
          simp [binOp, Op.intDiv, h1', opVal, cmpOp, litBin]
          done)
       | (simp [binOp, Op.intArith, Op.intBits, Op.intCmp, opVal, cmpOp, litBin, litCmp]
          done))
    | (have h2' : ¬ b < 0 := by have := h2 (by simp); omega
       simp [binOp, Op.shift, h2', opVal, cmpOp, litBin]
       done)

theorem eqGuard_int {op : BinOp} {t : TypeId} {x y : Operand} {k : IntKind} {n : Int} {v : Value} (w : World) : (eqGuard op t x y (.int k n) v).run P w = .ok () w := by
  rw [eqGuard_at_int]; rfl

theorem nonneg_of {n : Int} (h : ¬ decide (n < 0) = true) : 0 ≤ n := by
  have : ¬ n < 0 := by simpa using h
  omega
theorem ne_of {n : Int} (h : ¬ decide (n = 0) = true) : n ≠ 0 := by simpa using h

theorem nonneg_lss {n : Int} (h : litCmp .lss n 0 = false) : 0 ≤ n := by
  have : ¬ n < 0 := by simpa [litCmp] using h
  omega

theorem intOp_run {op : BinOp} {k : IntKind} {a b : AI DC} {x : AV DC} (h : (intOp op k a b).pick = some x) :
    VRel ρ x (opVal op k a.den b.den) ∧ (op = .quo ∨ op = .rem → b.den ≠ 0) ∧ (op = .shl ∨ op = .shr → 0 ≤ b.den) := by
  have key : ∀ (z : AV DC), (cmpOp op = true → z = .bool (.sym (litCmp op a.den b.den))) → (cmpOp op = false → z = .int k (.sym (litBin op k a.den b.den))) → VRel ρ z (opVal op k a.den b.den) := by
    intro z h1 h2
    unfold opVal
    cases hc : cmpOp op
    · rw [h2 hc]; rfl
    · rw [h1 hc]; rfl
  have keyl : ∀ (m n : Int) (z : AV DC), a = .lit m → b = .lit n → (cmpOp op = true → z = .bool (.lit (litCmp op m n))) → (cmpOp op = false → z = .int k (.lit (litBin op k m n))) → VRel ρ z (opVal op k a.den b.den) := by
    rintro m n z rfl rfl h1 h2
    unfold opVal
    cases hc : cmpOp op
    · rw [h2 hc]; rfl
    · rw [h1 hc]; rfl
  have hav : (a.val : Int) = a.den := AI.val_den a
  have hbv : (b.val : Int) = b.den := AI.val_den b
  cases hc : cmpOp op with
  | true =>
    have hno : ¬ (op = .quo ∨ op = .rem) ∧ ¬ (op = .shl ∨ op = .shr) := by cases op <;> simp [cmpOp] at hc ⊢
    refine ⟨?_, fun h' => absurd h' hno.1, fun h' => absurd h' hno.2⟩
    cases a <;> cases b <;> simp only [intOp, hc, if_true] at h <;> have := T.ret_some h <;> subst this <;> first
      | exact keyl _ _ _ rfl rfl (fun _ => rfl) (fun e => by rw [hc] at e; cases e)
      | exact key _ (fun _ => rfl) (fun e => by rw [hc] at e; cases e)
  | false =>
    cases b with
    | lit n =>
      cases a with
      | lit m =>
        simp only [intOp, hc, Bool.false_eq_true, if_false] at h
        refine ⟨?_, ?_, ?_⟩
        · refine keyl m n x rfl rfl (fun e => by rw [hc] at e; cases e) (fun _ => ?_)
          cases op <;> simp only [cmpOp, Bool.true_eq_false] at hc <;> simp only [] at h <;> (try split at h) <;> first | exact (T.ret_some h).symm | (cases h; done)
        · rintro (rfl | rfl) <;> simp only [] at h <;> split at h <;> first | (cases h; done) | (rename_i hn0; exact ne_of hn0)
        · rintro (rfl | rfl) <;> simp only [] at h <;> split at h <;> first | (cases h; done) | (rename_i hn0; exact nonneg_of hn0)
      | sym m =>
        simp only [intOp, hc, Bool.false_eq_true, if_false] at h
        refine ⟨?_, ?_, ?_⟩
        · refine key x (fun e => by rw [hc] at e; cases e) (fun _ => ?_)
          cases op <;> simp only [cmpOp, Bool.true_eq_false] at hc <;> simp only [] at h <;> (try split at h) <;> first | exact (T.ret_some h).symm | (cases h; done)
        · rintro (rfl | rfl) <;> simp only [] at h <;> split at h <;> first | (cases h; done) | (rename_i hn0; exact ne_of hn0)
        · rintro (rfl | rfl) <;> simp only [] at h <;> split at h <;> first | (cases h; done) | (rename_i hn0; exact nonneg_of hn0)
    | sym y =>
      have hr : intOp op k a (.sym y) = (match op with
        | .quo | .rem => T.br (D := DC) (litCmp .eql y 0) .fail (.ret (.int k (.sym (litBin op k a.val y))))
        | .shl | .shr => T.br (D := DC) (litCmp .lss y 0) .fail (.ret (.int k (.sym (litBin op k a.val y))))
        | _ => .ret (.int k (.sym (litBin op k a.val y)))) := by
        cases a <;> simp only [intOp, hc, Bool.false_eq_true, if_false] <;> cases op <;> rfl
      rw [hr] at h
      refine ⟨?_, ?_, ?_⟩
      · refine key x (fun e => by rw [hc] at e; cases e) (fun _ => ?_)
        rw [← hav]
        cases op <;> simp only [cmpOp, Bool.true_eq_false] at hc <;> simp only [] at h <;> first
          | exact (T.ret_some h).symm
          | (rcases T.br_some h with ⟨_, h⟩ | ⟨_, h⟩ <;> first | exact (T.ret_some h).symm | (cases h; done))
      · rintro (rfl | rfl) <;> simp only [] at h <;> rcases T.br_some h with ⟨_, h⟩ | ⟨h0, h⟩ <;> first | (cases h; done) | (simpa [AI.den, litCmp] using h0)
      · rintro (rfl | rfl) <;> simp only [] at h <;> rcases T.br_some h with ⟨_, h⟩ | ⟨h0, h⟩ <;> first | (cases h; done) | exact nonneg_lss h0
end
end Go.Proofs.Ytngcbpcfgolifaa.Ev
