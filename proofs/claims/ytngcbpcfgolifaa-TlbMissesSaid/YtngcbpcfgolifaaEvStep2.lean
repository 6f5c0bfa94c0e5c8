/- Indexes, parts of values, and all operations that are no calls of Go functions: sound. -/
import Derived.Test.YtngcbpcfgolifaaEvStep
namespace Go.Proofs.Ytngcbpcfgolifaa.Ev
open Go.RowKit
set_option linter.unusedVariables false
set_option linter.unusedSimpArgs false
section
variable {P : Program} {ρ : List Rb} {w0 w : World} {own : List Nat} {s : St DC} {a : Act}

theorem eachFrom_some {x : Int} {f : Nat → T DC (AV DC × List (W DC))} {r : AV DC × List (W DC)} : ∀ (n i : Nat), i ≤ x → x < i + n → (eachFrom (D := DC) x f n i).pick = some r → ∃ j : Nat, i ≤ j ∧ j < i + n ∧ x = j ∧ (f j).pick = some r
  | 0, _, _, _, h => by cases h
  | 1, i, h1, h2, h => ⟨i, Nat.le_refl _, by omega, by omega, h⟩
  | n + 2, i, h1, h2, h => by
    rcases T.br_some h with ⟨h3, h4⟩ | ⟨h3, h4⟩
    · exact ⟨i, Nat.le_refl _, by omega, by simpa [litCmp] using h3, h4⟩
    · have hne : ¬ x = i := by simpa [litCmp] using h3
      obtain ⟨j, a, b, c, d⟩ := eachFrom_some (n + 1) (i + 1) (by omega) (by omega) h4
      exact ⟨j, by omega, by omega, c, d⟩
theorem eachIdx_some {x : Int} {f : Nat → T DC (AV DC × List (W DC))} {r : AV DC × List (W DC)} (n : Nat) (h : (eachIdx (D := DC) x f n).pick = some r) : ∃ j : Nat, 0 ≤ j ∧ j < 0 + n ∧ x = j ∧ (f j).pick = some r := by
  rcases T.br_some h with ⟨h1, h2⟩ | ⟨_, h2⟩
  · have h1' : 0 ≤ x ∧ x < (n : Int) := of_decide_eq_true h1
    exact eachFrom_some n 0 (by omega) (by omega) h2
  · cases h2

theorem indexAt_arr {t e : TypeId} {len sz : Nat} (hu : P.underlying t = some (.array len e)) (hs : sizeT P e = some sz) (r : Rb) (off : Nat) (k : IntKind) (i : Int) (h0 : 0 ≤ i) (h1 : i < len) (w : World) :
    (Instr.indexAt t (.pointer (some (r.ad off))) (.int k i)).run P w = .ok (.pointer (some (r.ad (off + i.toNat * sz)))) w := by
  simp [Instr.indexAt, asIntOf, run_underlying hu, Instr.sureAddr, h0, h1, run_sizeT hs, Rb.ad_add]

theorem indexAt_slice {t e : TypeId} {len cap sz : Nat} (hu : P.underlying t = some (.slice e)) (hs : sizeT P e = some sz) (r : Rb) (off : Nat) (k : IntKind) (i : Int) (h0 : 0 ≤ i) (h1 : i < len) (w : World) :
    (Instr.indexAt t (.slice (some (r.ad off)) len cap) (.int k i)).run P w = .ok (.pointer (some (r.ad (off + i.toNat * sz)))) w := by
  simp [Instr.indexAt, asIntOf, run_underlying hu, h0, h1, run_sizeT hs, Rb.ad_add]

/-- Where there is an element the place is known. -/
theorem Cap.ok.at {cap : Cap DC} {r : Rb} {off len : Nat} {p : Option Addr} {c : Nat} (h : cap.ok r off len p c) (hl : 0 < len) : p = some (r.ad off) := by
  cases cap with
  | kn n => exact h.2
  | un w =>
    obtain ⟨h1, a, rfl, h2 | ⟨rfl, _⟩⟩ := h
    · omega
    · rfl
  | any => exact h.2 hl
  | zero => exact absurd h.2 (by omega)
  | ge w lo => exact h.2.2.1

theorem num_den {a : AN DC} {n : Nat} (h : (AN.num a : Option Nat) = some n) : a.den = n := by
  cases a with
  | lit m => simp only [AN.num, Option.some.injEq] at h; exact h
  | rc x w c =>
    unfold AN.num at h
    split at h <;> rename_i e <;> first | (cases h; done) | skip
    · cases e
    · cases e
      simp only [Option.some.injEq] at h
      subst h
      simp [AN.den, nN]

theorem adv_den {off o : AN DC} {i : AI DC} {sz : Nat} (h : off.adv i sz = some o) (h0 : 0 ≤ i.den) : o.den = off.den + i.den.toNat * sz := by
  unfold AN.adv at h
  split at h
  · split at h
    · cases h; rfl
    · cases h
  · cases h
    simp [AN.den, AI.den, nN]
  · rename_i x w c
    split at h
    · rename_i hw
      have := Nat.eq_of_beq_eq_true hw
      subst this
      cases h
      have hv : (i.val : Int) = i.den := AI.val_den i
      have e : nN (DC.nadd x (DC.toN i.val)) = nN x + i.den.toNat := by rw [← hv]; rfl
      simp only [AN.den, e, Nat.add_mul]
      omega
    · cases h
  · cases h

theorem indexAddrA_sound {h : List (AO DC)} {t : TypeId} {x ix : AV DC} {u v : Value} {z : AV DC × List (W DC)} (hz : (indexAddrA P h t x ix).pick = some z) (hx : VRel ρ x u) (hi : VRel ρ ix v) :
    z.2 = [] ∧ ∃ r, (Instr.indexAt t u v).run P w = .ok r w ∧ VRel ρ z.1 r := by
  unfold indexAddrA at hz
  cases hu : P.underlying t with
  | none => rw [hu] at hz; cases hz
  | some T =>
    rw [hu] at hz
    cases T <;> (try simp only [] at hz) <;> first | (cases hz; done) | skip
    · rename_i e
      split at hz
      all_goals first | (cases hz; done) | skip
      all_goals rename_i heq; cases heq
      all_goals
        obtain ⟨sz, hs⟩ : ∃ sz, sizeT P e = some sz := by
          cases hs : sizeT P e with
          | none => rw [hs] at hz; cases hz
          | some sz => exact ⟨sz, rfl⟩
        rw [hs] at hz
        simp only [] at hz
        obtain ⟨r, hr, p, c, rfl, hcap⟩ := hx
        cases hi
      · rename_i b off len cap k i
        split at hz
        · rename_i hc
          have := T.ret_some hz
          subst this
          simp only [Bool.and_eq_true, decide_eq_true_eq] at hc
          have ha : p = _ := hcap.at (by simp only [AN.den]; omega)
          subst ha
          exact ⟨rfl, _, indexAt_slice hu hs r _ _ _ hc.1 hc.2 w, r, hr, by rw [plus_den]⟩
        · cases hz
      · rename_i b off len cap k i hno
        split at hz
        · rename_i hcells
          obtain ⟨j, _, h2, rfl, h4⟩ := eachIdx_some _ hz
          have := T.ret_some h4
          subst this
          have ha : p = _ := hcap.at (by simp only [AN.den]; omega)
          subst ha
          exact ⟨rfl, _, indexAt_slice hu hs r _ _ _ (by simp [AI.den]) (by simp [AI.den, AN.den]; omega) w, r, hr, by rw [plus_den]; simp [AI.den]⟩
        · rename_i len i _ _ _ _
          split at hz
          · rename_i n o hn ho
            rcases T.br_some hz with ⟨h1, h2⟩ | ⟨_, h2⟩
            · have := T.ret_some h2
              subst this
              have hv : (i.val : Int) = i.den := AI.val_den i
              have h1' : 0 ≤ i.den ∧ i.den < nN n := by
                rw [← hv]
                exact of_decide_eq_true h1
              have hd := num_den hn
              have ha : p = _ := hcap.at (by rw [hd]; have := h1'.2; simp only [nN] at this; omega)
              subst ha
              refine ⟨rfl, _, indexAt_slice hu hs r _ _ _ h1'.1 (by rw [hd]; exact h1'.2) w, r, hr, ?_⟩
              rw [adv_den ho h1'.1]
            · cases h2
          · cases hz
    · rename_i len e
      split at hz
      all_goals first | (cases hz; done) | skip
      all_goals rename_i heq; cases heq
      all_goals
        obtain ⟨sz, hs⟩ : ∃ sz, sizeT P e = some sz := by
          cases hs : sizeT P e with
          | none => rw [hs] at hz; cases hz
          | some sz => exact ⟨sz, rfl⟩
        rw [hs] at hz
        simp only [] at hz
        obtain ⟨r, hr, rfl⟩ := hx
        cases hi
      · split at hz
        · rename_i hc
          have := T.ret_some hz
          subst this
          simp only [Bool.and_eq_true, decide_eq_true_eq] at hc
          exact ⟨rfl, _, indexAt_arr hu hs r _ _ _ hc.1 hc.2 w, r, hr, by rw [plus_den]⟩
        · cases hz
      · obtain ⟨j, _, h2, rfl, h4⟩ := eachIdx_some _ hz
        have := T.ret_some h4
        subst this
        exact ⟨rfl, _, indexAt_arr hu hs r _ _ _ (by simp [AI.den]) (by simp [AI.den]; omega) w, r, hr, by rw [plus_den]; simp [AI.den]⟩

theorem elemA_sound {t e : TypeId} {len sz : Nat} {g : Bool} (hu : P.underlying t = some (.array len e)) (hg : isAggT P e = some g) (hs : sizeT P e = some sz) {cs : List (AV DC)} {vs : Array Value} (hv : VRels ρ cs vs.toList)
    {k : IntKind} {j : Nat} (hj : j < len) {z : AV DC × List (W DC)} (hz : (elemA g sz cs j).pick = some z) : z.2 = [] ∧ ∃ r, (Instr.index t (.agg vs) (.int k j)).run P w = .ok r w ∧ VRel ρ z.1 r := by
  have hin : (Instr.index t (.agg vs) (.int k j)).run P w = (part e vs (j * sz)).run P w := by
    simp [Instr.index, asIntOf, run_underlying hu, hj, run_sizeT hs]
  cases g with
  | true =>
    have := T.ret_some hz
    subst this
    have hp := run_part (P := P) hg hs vs.toList (j * sz) (fun e => by cases e) w
    simp only [Array.toArray_toList, valOf, cond_true] at hp
    exact ⟨rfl, _, hin.trans hp, _, rfl, by simpa using (hv.drop (j * sz)).take sz⟩
  | false =>
    simp only [elemA] at hz
    split at hz
    · rename_i h1
      have h1' := Nat.eq_of_beq_eq_true h1
      subst h1'
      cases hc : cs[j]? with
      | none => rw [hc] at hz; cases hz
      | some y =>
        rw [hc] at hz
        have := T.ret_some hz
        subst this
        obtain ⟨v, h2, h3⟩ := hv.get hc
        have h2' : vs[j]? = some v := by simpa using h2
        refine ⟨rfl, v, ?_, h3⟩
        rw [hin, Nat.mul_one]
        simp only [part, Sem.run_bind, run_isAggT hg, Result.andThen_ok, Bool.false_eq_true, if_false, h2', Sem.run_pure]
    · cases hz

theorem indexA_sound {t : TypeId} {x ix : AV DC} {u v : Value} {z : AV DC × List (W DC)} (hz : (indexA P t x ix).pick = some z) (hx : VRel ρ x u) (hi : VRel ρ ix v) :
    z.2 = [] ∧ ∃ r, (Instr.index t u v).run P w = .ok r w ∧ VRel ρ z.1 r := by
  unfold indexA at hz
  cases hu : P.underlying t with
  | none => rw [hu] at hz; cases hz
  | some T =>
    rw [hu] at hz
    cases T <;> cases x <;> cases ix <;> (try simp only [] at hz) <;> first | (cases hz; done) | skip
    rename_i len e cs k i
    obtain ⟨vs, rfl, hv⟩ := hx
    cases hi
    cases hg : isAggT P e with
    | none => rw [hg] at hz; cases hz
    | some g =>
      cases hs : sizeT P e with
      | none => rw [hg, hs] at hz; cases hz
      | some sz =>
        rw [hg, hs] at hz
        cases i with
        | lit n =>
          simp only [] at hz
          split at hz
          · rename_i hc
            simp only [Bool.and_eq_true, decide_eq_true_eq] at hc
            obtain ⟨m, rfl⟩ := Int.eq_ofNat_of_zero_le hc.1
            simp only [Int.toNat_natCast] at hz
            exact elemA_sound hu hg hs hv (by omega) hz
          · cases hz
        | sym y =>
          simp only [] at hz
          obtain ⟨j, _, h2, rfl, h4⟩ := eachIdx_some _ hz
          exact elemA_sound hu hg hs hv (by omega) h4

theorem layA_rel : ∀ (l : List (AV DC)) (vs : List Value) (cs : List (AV DC)) (us : Array Value) (i j : Nat), VRels ρ l vs → VRels ρ cs us.toList →
    VRels ρ (layA cs (i + j) l) ((vs.zipIdx j).foldl (fun (c : Array Value) x => c.setIfInBounds (i + x.2) x.1) us).toList
  | [], vs, cs, us, i, j, hl, hc => by
    rw [show vs = [] from hl]
    exact hc
  | x :: l, _, cs, us, i, j, ⟨v, vs, rfl, hv, hvs⟩, hc => by
    have h1 : VRels ρ (cs.set (i + j) x) (us.setIfInBounds (i + j) v).toList := by simpa using hc.set (i := i + j) hv
    have := layA_rel l vs (cs.set (i + j) x) (us.setIfInBounds (i + j) v) i (j + 1) hvs h1
    simpa [layA, List.zipIdx_cons, Nat.add_assoc] using this

theorem fill_rel {place : Nat → Option (Nat × Nat)} : ∀ (ps : List (Nat × AV DC)) (qs : List (Nat × Value)) (cs : List (AV DC)) (us : Array Value) (l : List (AV DC)), fillA place cs ps = some l → VRels ρ cs us.toList →
    ps.map (·.1) = qs.map (·.1) → VRels ρ (ps.map (·.2)) (qs.map (·.2)) →
    ∃ vs, Instr.fill place us qs = some vs ∧ VRels ρ l vs.toList
  | [], qs, cs, us, l, h, hc, h1, h2 => by
    have : qs = [] := by cases qs with | nil => rfl | cons _ _ => simp at h1
    subst this
    simp only [fillA, Option.some.injEq] at h
    subst h
    exact ⟨us, rfl, hc⟩
  | (i, x) :: ps, [], cs, us, l, h, hc, h1, h2 => by simp at h1
  | (i, x) :: ps, (j, v) :: qs, cs, us, l, h, hc, h1, h2 => by
    simp only [List.map_cons, List.cons.injEq] at h1
    obtain ⟨e, h1⟩ := h1
    have e' : i = j := e
    subst e'
    obtain ⟨v', vs', e2, hv, hvs⟩ := h2
    simp only [List.map_cons, List.cons.injEq] at e2
    obtain ⟨rfl, rfl⟩ := e2
    simp only [fillA] at h
    cases hp : place i with
    | none => rw [hp] at h; cases h
    | some os =>
      obtain ⟨off, size⟩ := os
      rw [hp] at h
      simp only [] at h
      split at h
      · rename_i hcnd
        simp only [Bool.and_eq_true] at hcnd
        have hlen := Nat.eq_of_beq_eq_true hcnd.2.1
        have hle := Nat.le_of_ble_eq_true hcnd.2.2
        have hd : x ≠ .dead := by
          rintro rfl
          have := hcnd.1
          simp [AV.live] at this
        have hcells := cells_rel hv hd
        have hsz : v.cells.size = x.cellsA.length := by have := hcells.length; simpa using this
        have husz : us.size = cs.length := by have := hc.length; simpa using this
        have hl := layA_rel x.cellsA v.cells.toList cs us off 0 hcells hc
        obtain ⟨vs, h3, h4⟩ := fill_rel ps qs _ _ l h hl h1 hvs
        refine ⟨vs, ?_, h4⟩
        rw [Instr.fill, hp]
        have hn1 : ¬ v.cells.size ≠ size := by rw [hsz, hlen]; simp
        have hn2 : ¬ off + v.cells.size > us.size := by rw [hsz, husz]; omega
        simp only [hn1, hn2, decide_false, Bool.or_self, Bool.false_eq_true, if_false]
        rw [← h3]
        congr 1
        rw [← Array.foldl_toList]
        simp
      · cases h
end
end Go.Proofs.Ytngcbpcfgolifaa.Ev
