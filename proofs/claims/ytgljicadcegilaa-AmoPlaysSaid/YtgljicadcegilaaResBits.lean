/- Blocks of reservations, and the bytes of a store. Conditions: none. -/
import Derived.Test.YtgljicadcegilaaWords
namespace Go.Proofs.Ytgljicadcegilaa.Ev
open Go.RowKit
set_option linter.unusedVariables false
set_option linter.unusedSimpArgs false

/-- Whether a store has a byte of a block. -/
def hc (A n a : Int) : Bool := cond (litCmp .lss (litBin .sub .u64 A (litBin .andNot .u64 a 7)) 8) true (litCmp .lss (litBin .sub .u64 (litBin .andNot .u64 a 7) A) (IntKind.wrap .u64 n))
def hitS (A n a : Int) : Bool := cond (litCmp .lss n 1) false (hc A n a)
theorem clear_nat (n k m : Nat) (hn : n < 18446744073709551616) (hm : m < 18446744073709551616) (hb : ∀ i, m.testBit i = decide (i < k)) : litBin .andNot .u64 (n : Int) (m : Int) = ((n / 2 ^ k * 2 ^ k : Nat) : Int) := by
  have hle : n / 2 ^ k * 2 ^ k ≤ n := Nat.div_mul_le_self n (2 ^ k)
  refine eq_of_bits (inU.andNot _ _) (inU_nat (Nat.lt_of_le_of_lt hle hn)) fun i => ?_
  rw [bit_andNot (inU_nat hn) (inU_nat hm), bit_nat, bit_nat, bit_nat, hb, Nat.testBit_mul_two_pow, Nat.testBit_div_two_pow]
  by_cases h : i < k
  · simp [h]
    intro h2
    omega
  · have h2 : k ≤ i := by omega
    have e : i - k + k = i := by omega
    simp [h, h2, e]
theorem andNot7 {x : Int} (hx : inU x) : litBin .andNot .u64 x 7 = x - x % 8 := by
  obtain ⟨n, rfl, hn⟩ := hx.nat
  have := clear_nat n 3 7 hn (by decide) (fun i => by
    match i with
    | 0 => rfl
    | 1 => rfl
    | 2 => rfl
    | i + 3 => rw [Nat.testBit_succ, Nat.testBit_succ, Nat.testBit_succ]; simp)
  refine this.trans ?_
  omega
theorem quo8 {x : Int} (h : inU x) : litBin .quo .u64 x 8 = x / 8 := by
  unfold inU at h
  show IntKind.u64.wrap (Int.tdiv x 8) = _
  rw [Ev.wrap64, Int.tdiv_eq_ediv_of_nonneg h.1]
  omega
/-- A block is hit just if one of the bytes is in it. -/
theorem hit_iff {A a : Int} {n : Nat} (hA : inU A) (ha : inU a) (hn : n ≤ 64) : hitS A n a = true ↔ ∃ i : Nat, i < n ∧ (A + i) % 18446744073709551616 / 8 = a / 8 := by
  unfold hitS hc
  unfold inU at hA ha
  rw [andNot7 ha, sub_eq, sub_eq, lss_eq, lss_eq, lss_eq, Ev.wrap64]
  by_cases h0 : (n : Int) < 1
  · rw [decide_eq_true h0, cond_true]
    constructor
    · intro h; cases h
    · rintro ⟨i, h, _⟩; omega
  · rw [decide_eq_false h0, cond_false]
    by_cases h1 : (A - (a - a % 8)) % 18446744073709551616 < 8
    · rw [decide_eq_true h1, cond_true]
      refine ⟨fun _ => ⟨0, by omega, ?_⟩, fun _ => rfl⟩
      omega
    · rw [decide_eq_false h1, cond_false]
      constructor
      · intro h
        have h := of_decide_eq_true h
        refine ⟨((a - a % 8 - A) % 18446744073709551616).toNat, by omega, ?_⟩
        omega
      · rintro ⟨i, h, e⟩
        exact decide_eq_true (by omega)

theorem addi (q : Nat) (h : q ≤ 64) : litBin .add .i64 (q : Int) 1 = ((q + 1 : Nat) : Int) := by
  show IntKind.i64.wrap ((q : Int) + 1) = _
  rw [wrapi]
  omega
theorem hit_iff' {A a n : Int} (hA : inU A) (ha : inU a) (hn : n ≤ 64) : hitS A n a = true ↔ ∃ i : Nat, i < n.toNat ∧ (A + i) % 18446744073709551616 / 8 = a / 8 := by
  by_cases h0 : 0 ≤ n
  · obtain ⟨m, rfl⟩ : ∃ m : Nat, n = (m : Int) := ⟨n.toNat, by omega⟩
    exact hit_iff hA ha (by omega)
  · have e : hitS A n a = false ∨ True := .inr trivial
    unfold hitS
    rw [lss_eq, decide_eq_true (by omega : n < 1), cond_true]
    constructor
    · intro h; cases h
    · rintro ⟨i, h, _⟩; omega
end Go.Proofs.Ytgljicadcegilaa.Ev
