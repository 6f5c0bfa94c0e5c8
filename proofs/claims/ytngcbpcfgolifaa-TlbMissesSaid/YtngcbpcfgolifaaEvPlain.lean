/- Arguments that are numbers, bools, and structs and arrays of these: opened cell by cell, and read again in any memory. -/
import Derived.ProofKit
import Derived.OpenShut
import Derived.Below
import Derived.ChangeSame
import Derived.Test.YtngcbpcfgolifaaEvTop
namespace Go.Proofs.Ytngcbpcfgolifaa.Ev
open Go.RowKit Go.ChangeShapes Go.WideShapes Go.ChangeAt
set_option linter.unusedVariables false
set_option linter.unusedSimpArgs false

inductive LK where
  | int (k : IntKind)
  | bool

def LK.ok : LK → Value → Prop
  | .int k, v => ∃ n, v = .int k n ∧ (Lit.int k n).wf = true
  | .bool, v => ∃ b, v = .bool b

def CellsOk : List LK → List Value → Prop
  | [], cs => cs = []
  | k :: ks, cs => ∃ c cs', cs = c :: cs' ∧ k.ok c ∧ CellsOk ks cs'

/-- The kinds of fields that lie one behind the other, from a place on. -/
def tile (g : TypeId → Option (List LK)) (size : TypeId → Nat) : Nat → List Field → Option (List LK)
  | _, [] => some []
  | off, f :: fs => match g f.type with
    | some ks => if Nat.beq f.offset off && Nat.beq (size f.type) ks.length then (match tile g size (off + ks.length) fs with
      | some r => some (ks ++ r)
      | none => none) else none
    | none => none

def reps (ks : List LK) : Nat → List LK
  | 0 => []
  | n + 1 => ks ++ reps ks n

/-- The kinds of a plain type's cells. -/
def plainK (P : Program) : Nat → TypeId → Option (List LK)
  | 0, _ => none
  | d + 1, t => match P.underlying t with
    | some (.int k) => some [.int k]
    | some .bool => some [.bool]
    | some (.struct fs) => (match tile (plainK P d) P.cellsOf 0 fs.toList with
      | some ks => if Nat.beq (P.cellsOf t) ks.length then some ks else none
      | none => none)
    | some (.array n e) => (match plainK P d e with
      | some ks => if Nat.beq (P.cellsOf e) ks.length && Nat.beq (P.cellsOf t) (n * ks.length) then some (reps ks n) else none
      | none => none)
    | _ => none

theorem CellsOk.append : ∀ {ks ls : List LK} {cs ds : List Value}, CellsOk ks cs → CellsOk ls ds → CellsOk (ks ++ ls) (cs ++ ds)
  | [], _, _, _, h, h' => by rw [show _ = [] from h]; exact h'
  | k :: ks, _, _, _, ⟨c, cs', e, h1, h2⟩, h' => by subst e; exact ⟨c, _, rfl, h1, h2.append h'⟩

section
variable {H : Type} {enc : TypeId × Value → H} {P : Program}

/-- What is to be shown of a type: its cells are of their kinds, and it reads so in any memory. -/
def Reads (enc : TypeId × Value → H) (P : Program) (fuel : Nat) (t : TypeId) (cs : List Value) (x : DataW H × List MemPlace) : Prop :=
  x.2 = [] ∧ ∀ (w' : World) (base' : Nat) (sp' : Nat → Bool) (held' : Bool), DataW.trod enc P w' base' sp' held' fuel t cs = some x

theorem mapM_len {α β : Type} {f : α → Option β} : ∀ {l : List α} {r : List β}, l.mapM f = some r → r.length = l.length := fun h => mapM_some_length h

theorem tile_open {g : TypeId → Option (List LK)} {fuel : Nat} {w : World} {base : Nat} {sp : Nat → Bool} {held : Bool}
    (ih : ∀ t ks, g t = some ks → ∀ cs x, DataW.trod enc P w base sp held fuel t cs = some x → CellsOk ks cs ∧ Reads enc P fuel t cs x) (cs : List Value) :
    ∀ (fs : List Field) (off : Nat) (ks : List LK), tile g P.cellsOf off fs = some ks → ∀ xs, (fs.mapM fun f => DataW.trod enc P w base sp held fuel f.type ((cs.drop f.offset).take (P.cellsOf f.type))) = some xs →
      CellsOk ks ((cs.drop off).take ks.length) ∧ xs.flatMap (·.2) = [] ∧ ∀ (w' : World) (base' : Nat) (sp' : Nat → Bool) (held' : Bool), (fs.mapM fun f => DataW.trod enc P w' base' sp' held' fuel f.type ((cs.drop f.offset).take (P.cellsOf f.type))) = some xs
  | [], off, ks, h, xs, hx => by
    simp only [tile, Option.some.injEq] at h
    subst h
    simp only [List.mapM_nil, Option.pure_def, Option.some.injEq] at hx
    subst hx
    exact ⟨rfl, rfl, fun _ _ _ _ => rfl⟩
  | f :: fs, off, ks, h, xs, hx => by
    simp only [tile] at h
    cases hg : g f.type with
    | none => rw [hg] at h; cases h
    | some k1 =>
      rw [hg] at h
      simp only [] at h
      split at h
      · rename_i hc
        simp only [Bool.and_eq_true] at hc
        have ho := Nat.eq_of_beq_eq_true hc.1
        have hs := Nat.eq_of_beq_eq_true hc.2
        cases hr : tile g P.cellsOf (off + k1.length) fs with
        | none => rw [hr] at h; cases h
        | some r =>
          rw [hr] at h
          simp only [Option.some.injEq] at h
          subst h
          simp only [List.mapM_cons, Option.bind_eq_bind, Option.bind_eq_some_iff, Option.pure_def, Option.some.injEq] at hx
          obtain ⟨x, hx1, ys, hy, rfl⟩ := hx
          obtain ⟨h1, h2, h3⟩ := ih _ _ hg _ _ hx1
          obtain ⟨h4, h5, h6⟩ := tile_open ih cs fs (off + k1.length) r hr ys hy
          refine ⟨?_, by simp [h2, h5], fun w' b' s' d' => ?_⟩
          · rw [ho, hs] at h1
            have e : (cs.drop off).take (k1 ++ r).length = (cs.drop off).take k1.length ++ (cs.drop (off + k1.length)).take r.length := by
              rw [List.length_append, List.take_add, List.drop_drop]
            rw [e]
            exact h1.append h4
          · simp only [List.mapM_cons, Option.bind_eq_bind, h3 w' b' s' d', h6 w' b' s' d', Option.bind_some, Option.pure_def]
      · cases h

theorem reps_length (ks : List LK) : ∀ n, (reps ks n).length = n * ks.length
  | 0 => by simp [reps]
  | n + 1 => by simp [reps, reps_length ks n, Nat.add_mul]; omega

theorem reps_open {ks : List LK} {e : TypeId} {fuel : Nat} {w : World} {base : Nat} {sp : Nat → Bool} {held : Bool} (hs : P.cellsOf e = ks.length)
    (ih : ∀ cs x, DataW.trod enc P w base sp held fuel e cs = some x → CellsOk ks cs ∧ Reads enc P fuel e cs x) (cs : List Value) :
    ∀ (n i : Nat) xs, ((List.range' i n).mapM fun i => DataW.trod enc P w base sp held fuel e ((cs.drop (i * P.cellsOf e)).take (P.cellsOf e))) = some xs →
      CellsOk (reps ks n) ((cs.drop (i * ks.length)).take (n * ks.length)) ∧ xs.flatMap (·.2) = [] ∧ ∀ (w' : World) (base' : Nat) (sp' : Nat → Bool) (held' : Bool), ((List.range' i n).mapM fun i => DataW.trod enc P w' base' sp' held' fuel e ((cs.drop (i * P.cellsOf e)).take (P.cellsOf e))) = some xs
  | 0, i, xs, hx => by
    simp only [List.range'_zero, List.mapM_nil, Option.pure_def, Option.some.injEq] at hx
    subst hx
    exact ⟨by simp [reps, CellsOk], rfl, fun _ _ _ _ => rfl⟩
  | n + 1, i, xs, hx => by
    simp only [List.range'_succ, List.mapM_cons, Option.bind_eq_bind, Option.bind_eq_some_iff, Option.pure_def, Option.some.injEq] at hx
    obtain ⟨x, hx1, ys, hy, rfl⟩ := hx
    obtain ⟨h1, h2, h3⟩ := ih _ _ hx1
    obtain ⟨h4, h5, h6⟩ := reps_open hs ih cs n (i + 1) ys hy
    refine ⟨?_, by simp [h2, h5], fun w' b' s' d' => ?_⟩
    · rw [hs] at h1
      have e : (cs.drop (i * ks.length)).take ((n + 1) * ks.length) = (cs.drop (i * ks.length)).take ks.length ++ (cs.drop ((i + 1) * ks.length)).take (n * ks.length) := by
        rw [show (n + 1) * ks.length = ks.length + n * ks.length by rw [Nat.add_mul]; omega, List.take_add, List.drop_drop]
        congr 3
        rw [Nat.add_mul]; omega
      rw [e]
      exact h1.append h4
    · simp only [List.range'_succ, List.mapM_cons, Option.bind_eq_bind, h3 w' b' s' d', h6 w' b' s' d', Option.bind_some, Option.pure_def]

theorem plain_open {w : World} {base : Nat} {sp : Nat → Bool} {held : Bool} : ∀ (d fuel : Nat) (t : TypeId) (ks : List LK), plainK P d t = some ks → ∀ cs x, DataW.trod enc P w base sp held fuel t cs = some x → CellsOk ks cs ∧ Reads enc P fuel t cs x
  | 0, _, _, _, h, _, _, _ => by cases h
  | d + 1, 0, _, _, _, _, _, hx => by simp [DataW.trod] at hx
  | d + 1, fuel + 1, t, ks, h, cs, x, hx => by
    unfold plainK at h
    cases hu : P.underlying t with
    | none => rw [hu] at h; cases h
    | some T =>
      rw [hu] at h
      cases T <;> simp only [] at h <;> first | (cases h; done) | skip
      · cases h
        unfold DataW.trod at hx
        rw [hu] at hx
        match cs, hx with
        | [.bool b], hx =>
          simp only [Option.some.injEq] at hx
          subst hx
          exact ⟨⟨_, _, rfl, ⟨b, rfl⟩, rfl⟩, rfl, fun _ _ _ _ => by unfold DataW.trod; rw [hu]⟩
      · rename_i k
        cases h
        unfold DataW.trod at hx
        rw [hu] at hx
        match cs, hx with
        | [.int k' n], hx =>
          simp only [] at hx
          split at hx
          · rename_i hc
            simp only [Option.some.injEq] at hx
            subst hx
            obtain ⟨rfl, hw⟩ := hc
            exact ⟨⟨_, _, rfl, ⟨n, rfl, hw⟩, rfl⟩, rfl, fun _ _ _ _ => by unfold DataW.trod; rw [hu]; simp [hw]⟩
          · cases hx
      · rename_i n e
        cases hk : plainK P d e with
        | none => rw [hk] at h; cases h
        | some k1 =>
          rw [hk] at h
          simp only [] at h
          split at h
          · rename_i hc
            simp only [Bool.and_eq_true] at hc
            have h1 := Nat.eq_of_beq_eq_true hc.1
            have h2 := Nat.eq_of_beq_eq_true hc.2
            simp only [Option.some.injEq] at h
            subst h
            unfold DataW.trod at hx
            rw [hu] at hx
            have hlen : cs.length = P.cellsOf t := by
              rcases cs with _ | ⟨c, _ | ⟨c', r⟩⟩ <;> simp only [] at hx <;> split at hx <;> first | assumption | (cases hx; done)
            have hx' : ((List.range n).mapM fun i => DataW.trod enc P w base sp held fuel e ((cs.drop (i * P.cellsOf e)).take (P.cellsOf e))).map (fun xs => (DataW.agg (xs.map (·.1)), xs.flatMap (·.2))) = some x := by
              rcases cs with _ | ⟨c, _ | ⟨c', r⟩⟩ <;> simp only [] at hx <;> rw [if_pos hlen] at hx <;> exact hx
            rw [Option.map_eq_some_iff] at hx'
            obtain ⟨xs, hx1, rfl⟩ := hx'
            rw [List.range_eq_range'] at hx1
            obtain ⟨g1, g2, g3⟩ := reps_open h1 (fun cs x hx => plain_open d fuel e k1 hk cs x hx) cs n 0 xs hx1
            refine ⟨?_, g2, fun w' b' s' d' => ?_⟩
            · rw [Nat.zero_mul, List.drop_zero, List.take_of_length_le (by rw [hlen, h2]; exact Nat.le_refl _)] at g1
              exact g1
            · unfold DataW.trod
              rw [hu]
              have g3' := g3 w' b' s' d'
              rw [← List.range_eq_range'] at g3'
              rcases cs with _ | ⟨c, _ | ⟨c', r⟩⟩ <;> simp only [] <;> rw [if_pos hlen, g3'] <;> rfl
          · cases h
      · rename_i fs
        cases hk : tile (plainK P d) P.cellsOf 0 fs.toList with
        | none => rw [hk] at h; cases h
        | some k1 =>
          rw [hk] at h
          simp only [] at h
          split at h
          · rename_i hc
            have h2 := Nat.eq_of_beq_eq_true hc
            simp only [Option.some.injEq] at h
            subst h
            unfold DataW.trod at hx
            rw [hu] at hx
            have hlen : cs.length = P.cellsOf t := by
              rcases cs with _ | ⟨c, _ | ⟨c', r⟩⟩ <;> simp only [] at hx <;> split at hx <;> first | assumption | (cases hx; done)
            have hx' : (fs.toList.mapM fun f => DataW.trod enc P w base sp held fuel f.type ((cs.drop f.offset).take (P.cellsOf f.type))).map (fun xs => (DataW.agg (xs.map (·.1)), xs.flatMap (·.2))) = some x := by
              rcases cs with _ | ⟨c, _ | ⟨c', r⟩⟩ <;> simp only [] at hx <;> rw [if_pos hlen] at hx <;> exact hx
            rw [Option.map_eq_some_iff] at hx'
            obtain ⟨xs, hx1, rfl⟩ := hx'
            obtain ⟨g1, g2, g3⟩ := tile_open (fun t ks hk cs x hx => plain_open d fuel t ks hk cs x hx) cs fs.toList 0 k1 hk xs hx1
            refine ⟨?_, g2, fun w' b' s' d' => ?_⟩
            · rw [List.drop_zero, List.take_of_length_le (by rw [hlen, h2]; exact Nat.le_refl _)] at g1
              exact g1
            · unfold DataW.trod
              rw [hu]
              have g3' := g3 w' b' s' d'
              rcases cs with _ | ⟨c, _ | ⟨c', r⟩⟩ <;> simp only [] <;> rw [if_pos hlen, g3'] <;> rfl
          · cases h
end
end Go.Proofs.Ytngcbpcfgolifaa.Ev
