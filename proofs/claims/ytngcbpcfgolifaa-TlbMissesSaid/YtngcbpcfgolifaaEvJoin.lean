/- Two ways' writes as writes of one: sound. -/
import Derived.Test.YtngcbpcfgolifaaEvMerge
import Derived.Test.YtngcbpcfgolifaaEvOps
namespace Go.Proofs.Ytngcbpcfgolifaa.Ev
open Go.RowKit
set_option linter.unusedVariables false
set_option linter.unusedSimpArgs false
section
variable {ρ ρ0 : List Rb} {w0 w : World} {own : List Nat}

theorem apps_append (l m : List (W DC)) : ∀ s : St DC, s.apps (l ++ m) = (s.apps l).apps m := by
  induction l with
  | nil => intro s; rfl
  | cons x l ih => intro s; exact ih (s.app x)

/-- State: slots and memory together. -/
def SR (w0 : World) (own : List Nat) (ρ : List Rb) (s : St DC) (a : Act) (w : World) : Prop := RS ρ s.slots a ∧ WR w0 own ρ s.heap w

theorem memN_iff (d : Nat) : ∀ l : List Nat, memN d l = true ↔ d ∈ l
  | [] => by simp [memN]
  | x :: l => by
    simp only [memN, List.mem_cons]
    cases h : Nat.beq d x
    · have : d ≠ x := fun e => by subst e; simp at h
      simp [memN_iff d l, this]
    · have := Nat.eq_of_beq_eq_true h
      simp [this]
theorem memP_iff (b i : Nat) : ∀ l : List (Nat × Nat), memP b i l = true ↔ (b, i) ∈ l
  | [] => by simp [memP]
  | (c, j) :: l => by
    simp only [memP, List.mem_cons, Prod.mk.injEq]
    cases h : Nat.beq b c && Nat.beq i j
    · have : ¬ (b = c ∧ i = j) := fun ⟨e1, e2⟩ => by subst e1 e2; simp at h
      simp [memP_iff b i l, this]
    · simp only [Bool.and_eq_true] at h
      have h1 := Nat.eq_of_beq_eq_true h.1
      have h2 := Nat.eq_of_beq_eq_true h.2
      simp [h1, h2]
theorem mem_dedN (d : Nat) : ∀ l : List Nat, d ∈ l → d ∈ dedN l
  | x :: l, h => by
    simp only [dedN]
    cases hm : memN x l
    · simp only [cond_false]
      rcases List.mem_cons.1 h with rfl | h
      · simp
      · exact List.mem_cons_of_mem _ (mem_dedN d l h)
    · simp only [cond_true]
      rcases List.mem_cons.1 h with rfl | h
      · exact mem_dedN d l ((memN_iff d l).1 hm)
      · exact mem_dedN d l h
theorem mem_dedP (p : Nat × Nat) : ∀ l : List (Nat × Nat), p ∈ l → p ∈ dedP l
  | (b, i) :: l, h => by
    simp only [dedP]
    cases hm : memP b i l
    · simp only [cond_false]
      rcases List.mem_cons.1 h with rfl | h
      · simp
      · exact List.mem_cons_of_mem _ (mem_dedP p l h)
    · simp only [cond_true]
      rcases List.mem_cons.1 h with rfl | h
      · exact mem_dedP _ l ((memP_iff b i l).1 hm)
      · exact mem_dedP p l h

theorem apps_slots_length (l : List (W DC)) : ∀ s : St DC, (s.apps l).slots.length = s.slots.length := by
  induction l with
  | nil => intro s; rfl
  | cons x l ih => intro s; rw [St.apps, ih]; cases x <;> simp [St.app]

/-- A slot that is not written is as it was. -/
theorem apps_slot_other (t : Nat) : ∀ (l : List (W DC)) (s : St DC), t ∉ slotsOf l → (s.apps l).slots[t]? = s.slots[t]?
  | .obj _ _ :: l, s, h => apps_slot_other t l _ h
  | [], _, _ => rfl
  | .slot d v :: l, s, h => by
    simp only [slotsOf, List.mem_cons, not_or] at h
    rw [St.apps, apps_slot_other t l _ h.2]
    simp only [St.app]
    rw [List.getElem?_set_ne (fun e => h.1 e.symm)]
  | .cell _ _ _ :: l, s, h => apps_slot_other t l _ h
  | .new _ :: l, s, h => apps_slot_other t l _ h

/-- A block that was there: its length and type stay, and the cells that are not written. -/
theorem apps_block {n0 b : Nat} (hb : b < n0) {t : TypeId} : ∀ (l : List (W DC)) (s : St DC) (cs : List (AV DC)), noObj l = true → s.heap[b]? = some (.cells t cs) →
    ∃ cs', (s.apps l).heap[b]? = some (.cells t cs') ∧ cs'.length = cs.length ∧ ∀ i, (b, i) ∉ cellsOf n0 l → cs'[i]? = cs[i]?
  | [], _, cs, _, h => ⟨cs, h, rfl, fun _ _ => rfl⟩
  | .obj _ _ :: l, s, cs, hn, h => by cases hn
  | .slot d v :: l, s, cs, hn, h => apps_block hb l (s.app (.slot d v)) cs hn h
  | .cell c i v :: l, s, cs, hn, h => by
    by_cases hc : c = b
    · subst hc
      have h' : (s.app (.cell c i v)).heap[c]? = some (.cells t (cs.set i v)) := by simp only [St.app]; rw [setObj_same, h]; rfl
      obtain ⟨cs', h1, h2, h3⟩ := apps_block hb l _ _ hn h'
      refine ⟨cs', h1, by simpa using h2, fun j hj => ?_⟩
      simp only [cellsOf, (by simpa [Nat.blt_eq] using hb : Nat.blt c n0 = true), if_true, List.mem_cons, Prod.mk.injEq, true_and, not_or] at hj
      rw [h3 j hj.2, List.getElem?_set_ne (fun e => hj.1 e.symm)]
    · have h' : (s.app (.cell c i v)).heap[b]? = some (.cells t cs) := by simp only [St.app]; rw [setObj_other _ _ _ _ _ (fun e => hc e.symm)]; exact h
      obtain ⟨cs', h1, h2, h3⟩ := apps_block hb l _ _ hn h'
      refine ⟨cs', h1, h2, fun j hj => h3 j fun hm => hj ?_⟩
      simp only [cellsOf]
      split
      · exact List.mem_cons_of_mem _ hm
      · exact hm
  | .new o :: l, s, cs, hn, h => by
    have h' : (s.app (.new o)).heap[b]? = some (.cells t cs) := by
      simp only [St.app]
      rw [List.getElem?_append_left (List.getElem?_eq_some_iff.1 h).1]
      exact h
    exact apps_block hb l _ _ hn h'

/-- A block of another kind stays as it is. -/
theorem apps_other {b : Nat} {o : AO DC} (ho : ∀ t cs, o ≠ .cells t cs) : ∀ (l : List (W DC)) (s : St DC), noObj l = true → s.heap[b]? = some o → (s.apps l).heap[b]? = some o
  | [], _, _, h => h
  | .obj _ _ :: l, s, hn, h => by cases hn
  | .slot d v :: l, s, hn, h => apps_other ho l (s.app (.slot d v)) hn h
  | .cell c i v :: l, s, hn, h => by
    refine apps_other ho l _ hn ?_
    by_cases hc : b = c
    · subst hc
      simp only [St.app]
      rw [setObj_same, h]
      cases o <;> first | rfl | exact absurd rfl (ho _ _)
    · simp only [St.app]
      rw [setObj_other _ _ _ _ _ hc]
      exact h
  | .new x :: l, s, hn, h => by
    refine apps_other ho l _ hn ?_
    simp only [St.app]
    rw [List.getElem?_append_left (List.getElem?_eq_some_iff.1 h).1]
    exact h

/-- No new block among the writes. -/
def noNew : List (W DC) → Bool
  | [] => true
  | .new _ :: _ => false
  | _ :: l => noNew l

theorem apps_heap_length : ∀ (l : List (W DC)) (s : St DC), noNew l = true → (s.apps l).heap.length = s.heap.length
  | .obj _ _ :: l, s, h => by rw [St.apps, apps_heap_length l _ h]; simp [St.app]
  | [], _, _ => rfl
  | .slot _ _ :: l, s, h => apps_heap_length l _ h
  | .cell _ _ _ :: l, s, h => by rw [St.apps, apps_heap_length l _ h]; simp [St.app, setObj_length]
  | .new _ :: l, s, h => by cases h

/-- Writes that are right, one by one. -/
def WRight (ρ0 : List Rb) (a : Act) (w : World) : W DC → Prop
  | .slot d v => d < a.tmps.size → VRel ρ0 v (a.tmps.getD d Go.undef)
  | .cell b i v => ∀ r, ρ0[b]? = some r → ∃ u, w.cell? (r.ad i) = some u ∧ VRel ρ0 v u
  | .new _ => False
  | .obj _ _ => False

/-- All slots but those of D are right; D's are written. -/
theorem slots_fix {a : Act} (D : List Nat) : ∀ (l : List (W DC)) (s : St DC), s.slots.length ≤ a.tmps.size → (∀ x ∈ l, WRight ρ0 a w x) → (∀ t v, s.slots[t]? = some v → t ∉ D → VRel ρ0 v (a.tmps.getD t Go.undef)) →
    ∀ t v, (s.apps l).slots[t]? = some v → (t ∉ D ∨ t ∈ slotsOf l) → VRel ρ0 v (a.tmps.getD t Go.undef)
  | [], s, _, _, h, t, v, ht, hd => h t v ht (by rcases hd with h | h; exact h; cases h)
  | x :: l, s, hlen, hx, h, t, v, ht, hd => by
    have hrest : ∀ y ∈ l, WRight ρ0 a w y := fun y hy => hx y (by simp [hy])
    cases x with
    | slot d u =>
      have hu := hx (.slot d u) (by simp)
      refine slots_fix (D.filter (· ≠ d)) l (s.app (.slot d u)) (by simpa [St.app] using hlen) hrest (fun t' v' ht' hd' => ?_) t v ht ?_
      · simp only [St.app] at ht'
        rw [List.getElem?_set] at ht'
        by_cases he : d = t'
        · subst he
          rw [if_pos rfl] at ht'
          split at ht'
          · rename_i hl
            cases ht'
            exact hu (Nat.lt_of_lt_of_le hl hlen)
          · cases ht'
        · rw [if_neg he] at ht'
          exact h t' v' ht' fun hm => hd' (by simp [hm]; exact fun e => he e.symm)
      · rcases hd with hd | hd
        · exact .inl fun hm => hd (List.mem_filter.1 hm).1
        · simp only [slotsOf, List.mem_cons] at hd
          rcases hd with rfl | hd
          · exact .inl (by simp)
          · exact .inr hd
    | cell b i u => exact slots_fix D l (s.app (.cell b i u)) hlen hrest h t v ht (by simpa [slotsOf] using hd)
    | new o => exact (hx (.new o) (by simp)).elim
    | obj b o => exact (hx (.obj b o) (by simp)).elim

/-- A cell that is written is one of those that were written. -/
theorem apps_cell_written {n0 b j : Nat} (hb : b < n0) {t : TypeId} : ∀ (l : List (W DC)) (s : St DC) (cs : List (AV DC)), noObj l = true → s.heap[b]? = some (.cells t cs) → j < cs.length → (b, j) ∈ cellsOf n0 l →
    ∀ cs', (s.apps l).heap[b]? = some (.cells t cs') → ∃ v, W.cell b j v ∈ l ∧ cs'[j]? = some v
  | [], _, _, _, _, _, h, _, _ => by cases h
  | .obj _ _ :: l, s, cs, hn, h, hj, hm, cs', h' => by cases hn
  | .slot d v :: l, s, cs, hn, h, hj, hm, cs', h' => by
    obtain ⟨v, h1, h2⟩ := apps_cell_written hb l (s.app (.slot d v)) cs hn h hj hm cs' h'
    exact ⟨v, by simp [h1], h2⟩
  | .new o :: l, s, cs, hn, h, hj, hm, cs', h' => by
    have h0 : (s.app (.new o)).heap[b]? = some (.cells t cs) := by
      simp only [St.app]
      rw [List.getElem?_append_left (List.getElem?_eq_some_iff.1 h).1]
      exact h
    obtain ⟨v, h1, h2⟩ := apps_cell_written hb l (s.app (.new o)) cs hn h0 hj hm cs' h'
    exact ⟨v, by simp [h1], h2⟩
  | .cell c i v :: l, s, cs, hn, h, hj, hm, cs', h' => by
    by_cases hc : c = b
    · subst hc
      have h0 : (s.app (.cell c i v)).heap[c]? = some (.cells t (cs.set i v)) := by simp only [St.app]; rw [setObj_same, h]; rfl
      by_cases hin : (c, j) ∈ cellsOf n0 l
      · obtain ⟨u, h1, h2⟩ := apps_cell_written hb l _ _ hn h0 (by simpa using hj) hin cs' h'
        exact ⟨u, by simp [h1], h2⟩
      · simp only [cellsOf, (by simpa [Nat.blt_eq] using hb : Nat.blt c n0 = true), if_true, List.mem_cons, Prod.mk.injEq, true_and] at hm
        have hij : j = i := hm.resolve_right hin
        subst hij
        obtain ⟨cs2, h1, h2, h3⟩ := apps_block hb l _ _ hn h0
        have e : (s.apps (.cell c j v :: l)).heap[c]? = some (.cells t cs2) := h1
        rw [h'] at e
        cases e
        refine ⟨v, by simp, ?_⟩
        rw [h3 j hin, List.getElem?_set_self hj]
    · have h0 : (s.app (.cell c i v)).heap[b]? = some (.cells t cs) := by simp only [St.app]; rw [setObj_other _ _ _ _ _ (fun e => hc e.symm)]; exact h
      have hin : (b, j) ∈ cellsOf n0 l := by
        simp only [cellsOf] at hm
        split at hm
        · rcases List.mem_cons.1 hm with e | e
          · simp only [Prod.mk.injEq] at e
            exact absurd e.1.symm hc
          · exact e
        · exact hm
      obtain ⟨u, h1, h2⟩ := apps_cell_written hb l _ _ hn h0 hj hin cs' h'
      exact ⟨u, by simp [h1], h2⟩

theorem cellsOf_append (n0 : Nat) (m : List (W DC)) : ∀ l, cellsOf n0 (l ++ m) = cellsOf n0 l ++ cellsOf n0 m
  | .obj _ _ :: l => cellsOf_append n0 m l
  | [] => rfl
  | .slot _ _ :: l => cellsOf_append n0 m l
  | .new _ :: l => cellsOf_append n0 m l
  | .cell b i v :: l => by
    simp only [List.cons_append, cellsOf, cellsOf_append n0 m l]
    split <;> simp
theorem slotsOf_append (m : List (W DC)) : ∀ l, slotsOf (l ++ m) = slotsOf l ++ slotsOf m
  | .obj _ _ :: l => slotsOf_append m l
  | [] => rfl
  | .slot _ _ :: l => by simp [slotsOf, slotsOf_append m l]
  | .new _ :: l => slotsOf_append m l
  | .cell b i v :: l => slotsOf_append m l
theorem noNew_append (m : List (W DC)) : ∀ l, noNew l = true → noNew m = true → noNew (l ++ m) = true
  | [], _, h => h
  | .slot _ _ :: l, h, h' => noNew_append m l h h'
  | .cell b i v :: l, h, h' => noNew_append m l h h'
  | .obj b o :: l, h, h' => noNew_append m l h h'
theorem noObj_append (m : List (W DC)) : ∀ l, noObj l = true → noObj m = true → noObj (l ++ m) = true
  | [], _, h => h
  | .slot _ _ :: l, h, h' => noObj_append m l h h'
  | .cell b i v :: l, h, h' => noObj_append m l h h'
  | .new _ :: l, h, h' => noObj_append m l h h'

/-- What the writes of the slots are. -/
theorem joinSlots_spec {n0 base : Nat} {x : Bool} {A B : List (AV DC)} : ∀ (ds : List Nat) (l : List (W DC)), joinSlots (D := DC) n0 base x A B ds = some l →
    slotsOf l = ds ∧ cellsOf n0 l = [] ∧ (noNew l = true ∧ noObj l = true) ∧ ∀ y ∈ l, ∃ d v, y = .slot d v ∧ (v = .dead ∨ mergeV (D := DC) n0 x (A.getD d .dead) (B.getD d .dead) = some v)
  | [], l, h => by
    simp only [joinSlots, Option.some.injEq] at h
    subst h
    exact ⟨rfl, rfl, ⟨rfl, rfl⟩, fun _ h => by cases h⟩
  | d :: ds, l, h => by
    simp only [joinSlots] at h
    cases hr : joinSlots (D := DC) n0 base x A B ds with
    | none => rw [hr] at h; cases h
    | some r =>
      rw [hr] at h
      obtain ⟨h1, h2, h3, h4⟩ := joinSlots_spec ds r hr
      simp only [] at h
      cases hm : mergeV (D := DC) n0 x (A.getD d .dead) (B.getD d .dead) with
      | some v =>
        rw [hm] at h
        simp only [Option.some.injEq] at h
        subst h
        refine ⟨by simp [slotsOf, h1], h2, h3, fun y hy => ?_⟩
        rcases List.mem_cons.1 hy with rfl | hy
        · exact ⟨d, v, rfl, .inr hm⟩
        · exact h4 y hy
      | none =>
        rw [hm] at h
        simp only [] at h
        split at h
        · simp only [Option.some.injEq] at h
          subst h
          refine ⟨by simp [slotsOf, h1], h2, h3, fun y hy => ?_⟩
          rcases List.mem_cons.1 hy with rfl | hy
          · exact ⟨d, .dead, rfl, .inl rfl⟩
          · exact h4 y hy
        · cases h

theorem joinCells_spec {n0 : Nat} {x : Bool} {A B : List (AO DC)} : ∀ (ps : List (Nat × Nat)) (l : List (W DC)), joinCells (D := DC) n0 x A B ps = some l → (∀ p ∈ ps, p.1 < n0) →
    slotsOf l = [] ∧ cellsOf n0 l = ps ∧ (noNew l = true ∧ noObj l = true) ∧ ∀ y ∈ l, ∃ b i u v z, y = .cell b i z ∧ cellAt A b i = some u ∧ cellAt B b i = some v ∧ merge1 (D := DC) n0 x u v = some z
  | [], l, h, _ => by
    simp only [joinCells, Option.some.injEq] at h
    subst h
    exact ⟨rfl, rfl, ⟨rfl, rfl⟩, fun _ h => by cases h⟩
  | (b, i) :: ps, l, h, hp => by
    simp only [joinCells] at h
    cases hr : joinCells (D := DC) n0 x A B ps with
    | none => rw [hr] at h; cases h
    | some r =>
      rw [hr] at h
      obtain ⟨h1, h2, h3, h4⟩ := joinCells_spec ps r hr fun p hm => hp p (by simp [hm])
      simp only [] at h
      cases ha : cellAt A b i with
      | none => rw [ha] at h; cases h
      | some u =>
        cases hb : cellAt B b i with
        | none => rw [ha, hb] at h; cases h
        | some v =>
          rw [ha, hb] at h
          simp only [] at h
          cases hm : merge1 (D := DC) n0 x u v with
          | none => rw [hm] at h; cases h
          | some z =>
            rw [hm] at h
            simp only [Option.some.injEq] at h
            subst h
            have hlt : b < n0 := hp (b, i) (by simp)
            refine ⟨h1, by simp [cellsOf, Nat.blt_eq, hlt, h2], h3, fun y hy => ?_⟩
            rcases List.mem_cons.1 hy with rfl | hy
            · exact ⟨b, i, u, v, z, rfl, ha, hb, hm⟩
            · exact h4 y hy

theorem cellsOf_lt {n0 : Nat} : ∀ (l : List (W DC)) (p : Nat × Nat), p ∈ cellsOf n0 l → p.1 < n0
  | .obj _ _ :: l, p, h => cellsOf_lt l p h
  | .slot _ _ :: l, p, h => cellsOf_lt l p h
  | .new _ :: l, p, h => cellsOf_lt l p h
  | .cell b i v :: l, p, h => by
    simp only [cellsOf] at h
    split at h
    · rename_i hb
      rcases List.mem_cons.1 h with rfl | h
      · simpa [Nat.blt_eq] using hb
      · exact cellsOf_lt l p h
    · exact cellsOf_lt l p h
theorem dedP_sub : ∀ (l : List (Nat × Nat)) (p : Nat × Nat), p ∈ dedP l → p ∈ l
  | (b, i) :: l, p, h => by
    simp only [dedP] at h
    cases hm : memP b i l <;> rw [hm] at h
    · simp only [cond_false] at h
      rcases List.mem_cons.1 h with rfl | h
      · simp
      · exact List.mem_cons_of_mem _ (dedP_sub l p h)
    · simp only [cond_true] at h
      exact List.mem_cons_of_mem _ (dedP_sub l p h)

theorem cellAt_some {h : List (AO DC)} {b i : Nat} {u : AV DC} (hc : cellAt h b i = some u) : ∃ t cs, h[b]? = some (.cells t cs) ∧ cs[i]? = some u := by
  unfold cellAt at hc
  split at hc
  · rename_i t cs hb
    exact ⟨t, cs, hb, hc⟩
  · cases hc

/-- The state behind one way's writes is the state behind the joined ones. -/
theorem joinW_sound {s0 : St DC} {base : Nat} {x : Bool} {lA lB l3 : List (W DC)} (h : joinW (D := DC) s0 base x lA lB = some l3) {a0 a : Act} {w00 : World} (hx : Ext ρ0 ρ)
    (H0 : SR w0 own ρ0 s0 a0 w00) (H : SR w0 own ρ (s0.apps (bif x then lA else lB)) a w) : SR w0 own ρ0 (s0.apps l3) a w := by
  unfold joinW at h
  split at h
  · cases h
  rename_i hno
  have hno : noObj lA = true ∧ noObj lB = true := by simpa using hno
  simp only [] at h
  cases h1 : joinSlots (D := DC) s0.heap.length base x (s0.apps lA).slots (s0.apps lB).slots (dedN (slotsOf lA ++ slotsOf lB)) with
  | none => rw [h1] at h; cases h
  | some r =>
    rw [h1] at h
    simp only [] at h
    cases h2 : joinCells (D := DC) s0.heap.length x (s0.apps lA).heap (s0.apps lB).heap (dedP (cellsOf s0.heap.length lA ++ cellsOf s0.heap.length lB)) with
    | none => rw [h2] at h; cases h
    | some q =>
      rw [h2] at h
      simp only [Option.some.injEq] at h
      subst h
      have hl0 : ρ0.length = s0.heap.length := H0.2.len
      obtain ⟨a1, a2, a3, a4⟩ := joinSlots_spec _ _ h1
      obtain ⟨b1, b2, b3, b4⟩ := joinCells_spec _ _ h2 fun p hp => by
        rcases List.mem_append.1 (dedP_sub _ _ hp) with hp | hp
        · exact cellsOf_lt _ _ hp
        · exact cellsOf_lt _ _ hp
      generalize hC : (bif x then lA else lB) = lC at H
      have hnC : noObj lC = true := by
        subst hC
        cases x
        · exact hno.2
        · exact hno.1
      have hCs : ∀ d, d ∈ slotsOf lC → d ∈ dedN (slotsOf lA ++ slotsOf lB) := fun d hd => mem_dedN d _ (by
        subst hC
        cases x
        · exact List.mem_append_right _ hd
        · exact List.mem_append_left _ hd)
      have hCc : ∀ p, p ∈ cellsOf s0.heap.length lC → p ∈ dedP (cellsOf s0.heap.length lA ++ cellsOf s0.heap.length lB) := fun p hp => mem_dedP p _ (by
        subst hC
        cases x
        · exact List.mem_append_right _ hp
        · exact List.mem_append_left _ hp)
      have hright : ∀ y ∈ r ++ q, WRight ρ0 a w y := by
        intro y hy
        rcases List.mem_append.1 hy with hy | hy
        · obtain ⟨d, v, rfl, hv⟩ := a4 y hy
          intro _
          rcases hv with rfl | hv
          · trivial
          · refine mergeV_low hv hx hl0 (mergeV_rel hv ?_)
            have hg := H.1.getD d
            subst hC
            cases x <;> exact hg
        · obtain ⟨b, i, u, v, z, rfl, hu, hv, hm⟩ := b4 y hy
          intro rr hrr
          have hc : cellAt (s0.apps lC).heap b i = some (bif x then u else v) := by
            subst hC
            cases x
            · exact hv
            · exact hu
          obtain ⟨t, cs, hb, hci⟩ := cellAt_some hc
          exact (cell_of_rel H.2 hb (hx _ _ hrr) hci).imp fun val h => ⟨h.1, merge1_low hm hx hl0 (merge1_rel hm h.2)⟩
      have hslots : slotsOf (r ++ q) = dedN (slotsOf lA ++ slotsOf lB) := by rw [slotsOf_append, a1, b1]; simp
      have hcells : cellsOf s0.heap.length (r ++ q) = dedP (cellsOf s0.heap.length lA ++ cellsOf s0.heap.length lB) := by rw [cellsOf_append, a2, b2]; simp
      have hnn : noNew (r ++ q) = true := noNew_append _ _ a3.1 b3.1
      have hnq : noObj (r ++ q) = true := noObj_append _ _ a3.2 b3.2
      refine ⟨⟨?_, ?_, H.1.defers⟩, ?_⟩
      · have := H.1.size
        rw [apps_slots_length] at this ⊢
        exact this
      · intro t v ht
        have hsz : s0.slots.length ≤ a.tmps.size := by have := H.1.size; rwa [apps_slots_length] at this
        refine slots_fix (w := w) (dedN (slotsOf lA ++ slotsOf lB)) (r ++ q) s0 hsz hright (fun t' v' ht' hn => ?_) t v ht (by rw [hslots]; exact Decidable.em _ |>.symm)
        have hnC : t' ∉ slotsOf lC := fun hm => hn (hCs _ hm)
        have e := apps_slot_other t' lC s0 hnC
        rw [ht'] at e
        exact (H.1.rel t' v' e).back hx _ _ _ (H0.1.rel t' v' ht')
      · have hlen3 := apps_heap_length (r ++ q) s0 hnn
        have hkind : ∀ (i : Nat) o, (s0.apps (r ++ q)).heap[i]? = some o → ∃ o0, s0.heap[i]? = some o0 ∧ ((∃ t cs cs3 csC, o0 = .cells t cs ∧ o = .cells t cs3 ∧ (s0.apps lC).heap[i]? = some (.cells t csC) ∧ cs3.length = cs.length ∧ csC.length = cs.length ∧
            (∀ j, (i, j) ∉ cellsOf s0.heap.length (r ++ q) → cs3[j]? = cs[j]?) ∧ (∀ j, (i, j) ∉ cellsOf s0.heap.length lC → csC[j]? = cs[j]?)) ∨ ((∀ t cs, o0 ≠ .cells t cs) ∧ o = o0 ∧ (s0.apps lC).heap[i]? = some o0)) := by
          intro i o hi
          have hlt : i < s0.heap.length := by
            have := (List.getElem?_eq_some_iff.1 hi).1
            rwa [hlen3] at this
          obtain ⟨o0, ho⟩ : ∃ o0, s0.heap[i]? = some o0 := ⟨_, List.getElem?_eq_getElem hlt⟩
          refine ⟨o0, ho, ?_⟩
          by_cases hcell : ∃ t cs, o0 = .cells t cs
          · obtain ⟨t', cs', rfl⟩ := hcell
            obtain ⟨csC, hc1, hc2, hc3⟩ := apps_block hlt lC s0 cs' hnC ho
            obtain ⟨cs3, hd1, hd2, hd3⟩ := apps_block hlt (r ++ q) s0 cs' hnq ho
            rw [hi] at hd1
            cases hd1
            exact .inl ⟨t', cs', cs3, csC, rfl, rfl, hc1, hd2, hc2, hd3, hc3⟩
          · have hno : ∀ t cs, o0 ≠ .cells t cs := fun t cs e => hcell ⟨t, cs, e⟩
            have h1 := apps_other hno (r ++ q) s0 hnq ho
            rw [hi] at h1
            cases h1
            exact .inr ⟨hno, rfl, apps_other hno lC s0 hnC ho⟩
        refine H.2.less hx (by rw [hlen3]; exact hl0) (fun i o hi hl => ?_) (fun i o hi hl => ?_) ?_ ?_
        · obtain ⟨o0, ho, ⟨t, cs, cs3, csC, rfl, rfl, hc1, _⟩ | ⟨_, rfl, hc1⟩⟩ := hkind i o hi
          · exact ⟨_, hc1, trivial⟩
          · exact ⟨_, hc1, hl⟩
        · obtain ⟨o0, ho, ⟨t, cs, cs3, csC, rfl, rfl, hc1, _⟩ | ⟨_, rfl, hc1⟩⟩ := hkind i o hi
          · exact ⟨_, hc1, rfl⟩
          · exact ⟨_, hc1, hl⟩
        · intro i rr o hi hm hri
          obtain ⟨o0, ho, ⟨t, cs, cs3, csC, rfl, rfl, hc1, _⟩ | ⟨_, rfl, hc1⟩⟩ := hkind i o hi
          · exact H.2.new _ _ _ hc1 rfl (hx _ _ hri)
          · exact H.2.new _ _ _ hc1 hm (hx _ _ hri)
        · intro i o rr hi hri
          have hlt : i < s0.heap.length := by
            have := (List.getElem?_eq_some_iff.1 hi).1
            rwa [hlen3] at this
          obtain ⟨o0, ho, ⟨t', cs', cs3, csC, rfl, rfl, hc1, hd2, hc2, hd3, hc3⟩ | ⟨hno, rfl, hc1⟩⟩ := hkind i o hi
          · obtain ⟨vs, hvs, hsz, hrel⟩ := H.2.obj _ _ _ hc1 (hx _ _ hri)
            have hl3 : csC.length = cs3.length := by rw [hc2, hd2]
            rw [hl3] at hrel
            refine ⟨vs, hvs, hsz, .of_get (by rw [hrel.length, hl3]) fun j z hj => ?_⟩
            have hjl : j < cs3.length := (List.getElem?_eq_some_iff.1 hj).1
            by_cases hin : (i, j) ∈ cellsOf s0.heap.length (r ++ q)
            · obtain ⟨v, hm, hv⟩ := apps_cell_written hlt (r ++ q) s0 cs' hnq ho (by rw [← hd2]; exact hjl) hin cs3 hi
              rw [hj] at hv
              cases hv
              obtain ⟨u, hu1, hu2⟩ := hright _ hm rr hri
              rw [Rb.ad_own hsz, cell_of_row w rr.1 j vs t' (0, 0) hvs] at hu1
              exact ⟨u, by rw [List.getElem?_take, if_pos hjl]; simpa using hu1, hu2⟩
            · have hnC : (i, j) ∉ cellsOf s0.heap.length lC := fun hm => hin (by rw [hcells]; exact hCc _ hm)
              rw [hd3 j hin] at hj
              have hjC : csC[j]? = some z := by rw [hc3 j hnC]; exact hj
              obtain ⟨u, hu1, hu2⟩ := hrel.get hjC
              obtain ⟨r0, hr0, _, ho0⟩ := H0.2.block ho
              obtain ⟨vs0, _, _, hrel0⟩ := ho0
              obtain ⟨u0, _, hu0⟩ := hrel0.get hj
              exact ⟨u, hu1, hu2.back hx _ _ _ hu0⟩
          · cases o with
            | gone => trivial
            | cells t cs => exact absurd rfl (hno t cs)
            | rows t n fs => exact H.2.obj _ _ _ hc1 (hx _ _ hri)
            | arr t n fs => exact H.2.obj _ _ _ hc1 (hx _ _ hri)
            | map ks xs =>
              obtain ⟨es, cl, e, h1, h2⟩ := H.2.obj _ _ _ hc1 (hx _ _ hri)
              obtain ⟨r0, hr0, _, ho0⟩ := H0.2.block ho
              obtain ⟨es0, cl0, _, k1, k2⟩ := ho0
              exact ⟨es, cl, e, VRels.back hx _ _ _ h1 k1, VRels.back hx _ _ _ h2 k2⟩
end
end Go.Proofs.Ytngcbpcfgolifaa.Ev
