/- Solid abstract values stand for one value. -/
import Derived.Test.YtngcbpcfgolifaaEvSound
namespace Go.Proofs.Ytngcbpcfgolifaa.Ev
open Go.RowKit
set_option linter.unusedVariables false
set_option linter.unusedSimpArgs false
section
variable {P : Program} {w0 : World} {own : List Nat}

/-- A block's place. -/
def atB (ρ : List Rb) (b : Nat) : Rb := ρ.getD b (0, 0, 0)
/-- The one value that a solid abstract value stands for. -/
def den1 (ρ : List Rb) : AV DC → Value
  | .undef => Go.undef
  | .bool b => .bool b.den
  | .int k n => .int k n.den
  | .str s => .string s
  | .ptr b off => .pointer (some ((atB ρ b).ad off.den))
  | .nilptr => .pointer none
  | .slice b off len (.kn cap) => .slice (some ((atB ρ b).ad off.den)) len.den cap.den
  | .map b => .map (some (atB ρ b).1)
  | .nilslice => .slice none 0 0
  | .func fn _ _ => .func fn #[] #[]
  | .nilfunc => .nilFunc
  | .sstr f o n => .string ⟨((List.range (nN n)).map fun i => UInt8.ofNat (fF f (nN o + i)).toNat).toArray⟩
  | _ => Go.undef
def den (ρ : List Rb) : AV DC → Value
  | .agg cs => .agg (cs.map (den1 ρ)).toArray
  | .tuple cs => .tuple (cs.map (den1 ρ)).toArray
  | v => den1 ρ v

theorem getD_of {ρ : List Rb} {b : Nat} {r : Rb} (h : ρ[b]? = some r) : atB ρ b = r := by simp [atB, List.getD, h]
theorem den1_only {ρ : List Rb} {n0 : Nat} {x : AV DC} (hs : x.solid1 n0 = true) {v : Value} (h : VRel ρ x v) : v = den1 ρ x := by
  cases x <;> first | (cases hs; done) | skip
  all_goals try exact h
  · rename_i f o n
    obtain ⟨s, rfl, h1, h2⟩ := h
    simp only [den1, Value.string.injEq]
    have hsz : (⟨((List.range (nN n)).map fun i => UInt8.ofNat (fF f (nN o + i)).toNat).toArray⟩ : ByteArray).size = nN n := by simp [ByteArray.size]
    refine ByteArray.ext_getElem (h1.trans hsz.symm) fun i hi1 hi2 => ?_
    have := h2 i hi1
    have hi : i < nN n := by rw [← h1]; exact hi1
    show s[i] = (((List.range (nN n)).map fun i => UInt8.ofNat (fF f (nN o + i)).toNat).toArray)[i]'hi2
    simp only [List.getElem_toArray, List.getElem_map, List.getElem_range]
    rw [← this]
    simp
  · obtain ⟨r, hr, rfl⟩ := h; simp only [den1, getD_of hr]
  · obtain ⟨r, hr, rfl⟩ := h; simp only [den1, getD_of hr]
  · rename_i b off len cap
    cases cap with
    | kn c =>
      obtain ⟨r, hr, p, c', rfl, rfl, rfl⟩ := h
      simp only [den1, getD_of hr]
    | un w => cases hs
    | any => cases hs
    | zero => cases hs
    | ge w lo => cases hs
  · rename_i fn f c
    cases f with
    | nil => cases c with
      | nil =>
        obtain ⟨f', c', rfl, h1, h2⟩ := h
        have e1 : f' = #[] := by have := (show f'.toList = [] from h1); exact Array.ext' this
        have e2 : c' = #[] := by have := (show c'.toList = [] from h2); exact Array.ext' this
        rw [e1, e2]
        rfl
      | cons _ _ => cases hs
    | cons _ _ => cases hs

theorem den1_low {ρ ρ0 : List Rb} {n0 : Nat} {x : AV DC} (hs : x.solid1 n0 = true) (hx : Ext ρ0 ρ) (hl : ρ0.length = n0) {v : Value} (h : VRel ρ x v) : VRel ρ0 x v := by
  cases x <;> first | (cases hs; done) | skip
  all_goals try exact h
  · obtain ⟨r, hr, e⟩ := h; exact ⟨r, low_id hs hx hl hr, e⟩
  · obtain ⟨r, hr, e⟩ := h; exact ⟨r, low_id hs hx hl hr, e⟩
  · rename_i b off len cap
    cases cap with
    | kn c => obtain ⟨r, hr, e⟩ := h; exact ⟨r, low_id hs hx hl hr, e⟩
    | un w => cases hs
    | any => cases hs
    | zero => cases hs
    | ge w lo => cases hs
  · rename_i fn f c
    cases f with
    | nil => cases c with
      | nil => obtain ⟨f', c', e, h1, h2⟩ := h; exact ⟨f', c', e, h1, h2⟩
      | cons _ _ => cases hs
    | cons _ _ => cases hs

theorem denL_only {ρ : List Rb} {n0 : Nat} : ∀ {cs : List (AV DC)} {l : List Value}, cs.all (AV.solid1 n0) = true → VRels ρ cs l → l = cs.map (den1 ρ)
  | [], _, _, h => h
  | c :: cs, _, hs, ⟨v, vs, e, h1, h2⟩ => by
    simp only [List.all_cons, Bool.and_eq_true] at hs
    rw [e, den1_only hs.1 h1, denL_only hs.2 h2]
    rfl
theorem denL_low {ρ ρ0 : List Rb} {n0 : Nat} (hx : Ext ρ0 ρ) (hl : ρ0.length = n0) : ∀ {cs : List (AV DC)} {l : List Value}, cs.all (AV.solid1 n0) = true → VRels ρ cs l → VRels ρ0 cs l
  | [], _, _, h => h
  | c :: cs, _, hs, ⟨v, vs, e, h1, h2⟩ => by
    simp only [List.all_cons, Bool.and_eq_true] at hs
    exact ⟨v, vs, e, den1_low hs.1 hx hl h1, denL_low hx hl hs.2 h2⟩

theorem den_only {ρ : List Rb} {n0 : Nat} {x : AV DC} (hs : x.solid n0 = true) {v : Value} (h : VRel ρ x v) : v = den ρ x := by
  cases x
  case agg cs =>
    obtain ⟨vs, rfl, hv⟩ := h
    have := denL_only hs hv
    simp only [den]
    congr 1
    exact Array.ext' (by simpa using this)
  case tuple cs =>
    obtain ⟨vs, rfl, hv⟩ := h
    have := denL_only hs hv
    simp only [den]
    congr 1
    exact Array.ext' (by simpa using this)
  all_goals
    simp only [AV.solid] at hs
    simp only [den]
    exact den1_only hs h
theorem den_low {ρ ρ0 : List Rb} {n0 : Nat} {x : AV DC} (hs : x.solid n0 = true) (hx : Ext ρ0 ρ) (hl : ρ0.length = n0) {v : Value} (h : VRel ρ x v) : VRel ρ0 x v := by
  cases x
  case agg cs => obtain ⟨vs, e, hv⟩ := h; exact ⟨vs, e, denL_low hx hl hs hv⟩
  case tuple cs => obtain ⟨vs, e, hv⟩ := h; exact ⟨vs, e, denL_low hx hl hs hv⟩
  all_goals
    simp only [AV.solid] at hs
    exact den1_low hs hx hl h

end
end Go.Proofs.Ytngcbpcfgolifaa.Ev
