/- The harts of a mask: the places of its bits; what a round of the code's loop does to them. Conditions: none. -/
import Derived.Test.YtbjlkapfpcmjfaaDoorCx
import Derived.Test.YtbjlkapfpcmjfaaDoorEvBits
namespace Go.Proofs.YtbjlkapfpcmjfaaDoor.Mask
open Go.RowKit Ev
set_option linter.unusedVariables false
set_option linter.unusedSimpArgs false

def bitsL (m : Nat) : List Nat := (List.range 64).filter fun k => m.testBit k
theorem mem_bits {m k : Nat} : k ∈ bitsL m ↔ k < 64 ∧ m.testBit k = true := by simp [bitsL]

theorem ctz_spec {m : Nat} (h0 : m ≠ 0) (h : m < 18446744073709551616) : Lib.ctz 64 m < 64 ∧ m.testBit (Lib.ctz 64 m) = true ∧ (∀ j, j < Lib.ctz 64 m → m.testBit j = false) ∧ ∀ j, Lib.ctz 64 m < j → (m &&& (m - 1)).testBit j = m.testBit j ∧ (m &&& (m - 1)).testBit (Lib.ctz 64 m) = false := by
  obtain ⟨q, hm, hk⟩ := Lib.ctzFrom_spec 64 m (by omega) h
  have e : Lib.ctz 64 m = Lib.ctzFrom 64 m := by simp [Lib.ctz, h0]
  rw [← e] at hm hk
  generalize Lib.ctz 64 m = k at hm hk
  have hp : 0 < 2 ^ k := Nat.two_pow_pos k
  have hm1 : m - 1 = 2 ^ k * (2 * q) + (2 ^ k - 1) := by
    rw [hm, Nat.mul_add, Nat.mul_one]
    omega
  have b1 : ∀ j, m.testBit j = (decide (j ≥ k) && (2 * q + 1).testBit (j - k)) := fun j => by rw [hm, Nat.testBit_two_pow_mul]
  have b2 : ∀ j, (m - 1).testBit j = if j < k then (2 ^ k - 1).testBit j else (2 * q).testBit (j - k) := fun j => by
    rw [hm1, Nat.testBit_two_pow_mul_add _ (by omega)]
  have hz : (m &&& (m - 1)).testBit k = false := by
    rw [Nat.testBit_and, b2 k, if_neg (Nat.lt_irrefl _), Nat.sub_self]
    simp
  refine ⟨hk, ?_, fun j hj => ?_, fun j hj => ⟨?_, hz⟩⟩
  · rw [b1 k, Nat.sub_self]
    simp
  · rw [b1 j]
    simp
    omega
  · obtain ⟨i, rfl⟩ : ∃ i, j = k + (i + 1) := ⟨j - k - 1, by omega⟩
    rw [Nat.testBit_and, b1, b2, if_neg (by omega), show k + (i + 1) - k = i + 1 by omega, Nat.testBit_succ, Nat.testBit_succ]
    have d1 : (2 * q + 1) / 2 = q := by omega
    have d2 : 2 * q / 2 = q := by omega
    rw [d1, d2]
    cases q.testBit i <;> simp

theorem bits_nil {m : Nat} (h : m < 18446744073709551616) : bitsL m = [] ↔ m = 0 := by
  constructor
  · intro hb
    by_cases h0 : m = 0
    · exact h0
    · obtain ⟨h1, h2, _⟩ := ctz_spec h0 h
      have : Lib.ctz 64 m ∈ bitsL m := mem_bits.2 ⟨h1, h2⟩
      rw [hb] at this
      cases this
  · rintro rfl
    simp [bitsL]
theorem range_cut {k : Nat} (h : k < 64) : List.range 64 = List.range k ++ k :: List.range' (k + 1) (63 - k) := by
  rw [List.range_eq_range', List.range_eq_range']
  have e : (64 : Nat) = k + (1 + (63 - k)) := by omega
  rw [e, ← List.range'_append_1]
  congr 1
  rw [Nat.zero_add, Nat.add_comm 1, List.range'_succ]
theorem bits_step {m : Nat} (h0 : m ≠ 0) (h : m < 18446744073709551616) : bitsL m = Lib.ctz 64 m :: bitsL (m &&& (m - 1)) := by
  obtain ⟨hk, hb, hlow, hup⟩ := ctz_spec h0 h
  generalize Lib.ctz 64 m = k at *
  have hz : (m &&& (m - 1)).testBit k = false := (hup (k + 1) (by omega)).2
  unfold bitsL
  rw [range_cut hk, List.filter_append, List.filter_append, List.filter_cons, List.filter_cons, if_pos hb, if_neg (by simp [hz])]
  have e1 : (List.range k).filter (fun i => m.testBit i) = [] := List.filter_eq_nil_iff.2 fun i hi => by rw [hlow i (List.mem_range.1 hi)]; simp
  have e2 : (List.range k).filter (fun i => (m &&& (m - 1)).testBit i) = [] := List.filter_eq_nil_iff.2 fun i hi => by rw [Nat.testBit_and, hlow i (List.mem_range.1 hi)]; simp
  rw [e1, e2, List.nil_append, List.nil_append]
  congr 1
  refine List.filter_congr fun i hi => ?_
  rw [List.mem_range'_1] at hi
  rw [(hup i (by omega)).1]

theorem next_lt {m : Nat} (h : m < 18446744073709551616) : m &&& (m - 1) < 18446744073709551616 := Nat.lt_of_le_of_lt Nat.and_le_left h
theorem next_I {m : Nat} (h0 : m ≠ 0) (h : m < 18446744073709551616) : litBin .and .u64 (m : Int) (litBin .sub .u64 (m : Int) 1) = ((m &&& (m - 1) : Nat) : Int) := by
  have e : litBin .sub .u64 (m : Int) 1 = ((m - 1 : Nat) : Int) := by rw [sub_eq]; omega
  rw [e, and_nat h (by omega)]
theorem tzI_nat (m : Nat) : tzI (m : Int) = ((Lib.ctz 64 m : Nat) : Int) := by unfold tzI; rw [Int.toNat_natCast]

/-- Is the hart there? -/
def pass (b y k : Nat) : Bool := decide (b < y) && decide (b + k < y)
theorem refuse_I {b y k : Nat} (hy : y ≤ 8) (hk : k < 64) : cond (litCmp .geq (b : Int) (y : Int)) true (litCmp .geq (IntKind.u64.wrap (k : Int)) (litBin .sub .u64 (y : Int) (b : Int))) = !(pass b y k) := by
  unfold pass
  rw [geq_eq, geq_eq, Ev.wrap64, sub_eq]
  by_cases h : b < y
  · rw [decide_eq_false (by omega), cond_false, decide_eq_true h, Bool.true_and, ← decide_not]
    congr 1
    apply propext
    omega
  · rw [decide_eq_true (by omega), cond_true, decide_eq_false h]
    rfl
theorem wrap64i {x : Int} (h : -9223372036854775808 ≤ x ∧ x < 9223372036854775808) : IntKind.i64.wrap x = x := by
  simp [IntKind.wrap, IntKind.signed, IntKind.bits]
  split <;> omega
theorem value_I {b y k : Nat} (hy : y ≤ 8) (h : pass b y k = true) : IntKind.i64.wrap (litBin .add .u64 (b : Int) (IntKind.u64.wrap (k : Int))) = ((b + k : Nat) : Int) := by
  unfold pass at h
  rw [Bool.and_eq_true, decide_eq_true_eq, decide_eq_true_eq] at h
  rw [add_eq, Ev.wrap64, wrap64i (by omega)]
  omega

/-- A list as rows of numbers. -/
def listF (l : List Int) (i : Nat) : Int := l.getD i 0
theorem listF_one (x : Int) : (fun i : Nat => if i = 0 then x else (0 : Int)) = listF [x] := by
  funext i
  cases i <;> simp [listF]
theorem listF_snoc (l : List Int) (x : Int) : (fun i : Nat => if i = l.length then x else listF l i) = listF (l ++ [x]) := by
  funext i
  unfold listF
  rcases Nat.lt_trichotomy i l.length with h | h | h
  · rw [if_neg (by omega), List.getD_eq_getElem?_getD, List.getD_eq_getElem?_getD, List.getElem?_append_left h]
  · subst h
    simp
  · rw [if_neg (by omega), List.getD_eq_getElem?_getD, List.getD_eq_getElem?_getD, List.getElem?_eq_none (by omega), List.getElem?_eq_none (by simp; omega)]

/-! ### What is answered -/
def lanes (n : Int) : Nat := (min (max n 0) 8).toNat
def maskOf (m b y : Nat) : Nat := if b = 18446744073709551615 then 2 ^ y - 1 else m
def baseOf (b : Nat) : Nat := if b = 18446744073709551615 then 0 else b
def okN (m b y : Nat) : Bool := (bitsL (maskOf m b y)).all (pass (baseOf b) y)
def listN (m b y : Nat) : List Int := if okN m b y then (bitsL (maskOf m b y)).map fun k => ((baseOf b + k : Nat) : Int) else []
end Go.Proofs.YtbjlkapfpcmjfaaDoor.Mask
