/- Words of entries in natural numbers. Conditions: none. -/
import Derived.Test.YtbjlkapfpcmjfaaCx
import Derived.Test.YtbjlkapfpcmjfaaEvRoute
namespace Go.Proofs.Ytbjlkapfpcmjfaa.PteW
open Go.RowKit Go.WideShapes Go.ChangeShapes Go.ChangeAt Ev
set_option linter.unusedVariables false
set_option linter.unusedSimpArgs false

theorem neq_self (x : Int) : litCmp .neq x x = false := by rw [neq_eq, decide_eq_true rfl]; rfl
theorem eql_self (x : Int) : litCmp .eql x x = true := by rw [eql_eq]; exact decide_eq_true rfl
theorem and_low {n : Nat} (k M : Nat) (hM : M = 2 ^ k - 1) (hn : n < 18446744073709551616) (hl : M < 18446744073709551616) : litBin .and .u64 (n : Int) (M : Int) = ((n % 2 ^ k : Nat) : Int) := by
  rw [and_nat hn hl, hM, Nat.and_two_pow_sub_one_eq_mod]
theorem or_apart {a b : Nat} (k : Nat) (hb : b < 2 ^ k) (h : 2 ^ k * a + b < 18446744073709551616) : litBin .or .u64 ((2 ^ k * a : Nat) : Int) (b : Int) = ((2 ^ k * a + b : Nat) : Int) := by
  rw [or_nat (by omega) (by omega), ← Nat.two_pow_add_eq_or_of_lt hb a]
theorem andNot_low {n : Nat} (k M : Nat) (hM : M = 2 ^ k - 1) (hn : n < 18446744073709551616) (hl : M < 18446744073709551616) : litBin .andNot .u64 (n : Int) (M : Int) = ((2 ^ k * (n / 2 ^ k) : Nat) : Int) := by
  have hx : 2 ^ k * (n / 2 ^ k) ≤ n := Nat.mul_div_le n (2 ^ k)
  refine eq_of_bits (inU.andNot _ _) (inU_nat (by omega)) fun i => ?_
  rw [bit_andNot (inU_nat hn) (inU_nat hl), bit_nat, bit_nat, bit_nat, hM, Nat.testBit_two_pow_sub_one, Nat.testBit_two_pow_mul, Nat.testBit_div_two_pow]
  by_cases h : i < k
  · have e : ¬ k ≤ i := by omega
    simp [h, e]
  · have e : i - k + k = i := by omega
    simp [h, e]
    try (intro _; omega)
theorem rem_nat (n m : Nat) : litBin .rem .u64 (n : Int) (m : Int) = ((n % m : Nat) : Int) := rfl
theorem quo_nat {n : Nat} (m : Nat) (hn : n < 18446744073709551616) : litBin .quo .u64 (n : Int) (m : Int) = ((n / m : Nat) : Int) :=
  wrap_nat (n := n / m) (Nat.lt_of_le_of_lt (Nat.div_le_self _ _) hn)
theorem mul_nat {n m : Nat} (h : n * m < 18446744073709551616) : litBin .mul .u64 (n : Int) (m : Int) = ((n * m : Nat) : Int) :=
  wrap_nat (n := n * m) h
theorem add_nat {n m : Nat} (h : n + m < 18446744073709551616) : litBin .add .u64 (n : Int) (m : Int) = ((n + m : Nat) : Int) :=
  wrap_nat (n := n + m) h
theorem shl_nat {n : Nat} (j : Nat) (hj : j ≤ 64) (h : n * 2 ^ j < 18446744073709551616) : litBin .shl .u64 (n : Int) (j : Int) = ((n * 2 ^ j : Nat) : Int) := by
  show IntKind.u64.wrap ((n : Int) * 2 ^ (min ((j : Int).toNat) 64)) = _
  rw [Int.toNat_natCast, Nat.min_eq_left hj, ← wrap_nat h]
  simp
theorem shr_div (x j : Nat) (hj : j ≤ 64) : litBin .shr .u64 (x : Int) (j : Int) = ((x / 2 ^ j : Nat) : Int) := by
  rw [shr_nat x j hj, Nat.shiftRight_eq_div_pow]

theorem wrapi (x : Int) : IntKind.i64.wrap x = (x + 9223372036854775808) % 18446744073709551616 - 9223372036854775808 := by
  simp [IntKind.wrap, IntKind.signed, IntKind.bits]
  try omega
theorem shri (a : Int) : litBin .shr .i64 a 38 = a / 274877906944 := by
  show Int.fdiv a (2 ^ (min ((38 : Int).toNat) 64)) = _
  rw [Int.fdiv_eq_ediv_of_nonneg _ (by decide)]
  rfl
theorem makes {pg fl : Nat} (hp : pg < 18446744073709551616) (hf : fl < 18446744073709551616) : litCmp .eql (litBin .or .u64 (litBin .shl .u64 (litBin .and .u64 (pg : Int) 17592186044415) 10) (litBin .and .u64 (fl : Int) 1023)) (litBin .add .u64 (litBin .shl .u64 (litBin .rem .u64 (pg : Int) 17592186044416) 10) (litBin .rem .u64 (fl : Int) 1024)) = true := by
  have h1 : litBin .and .u64 (pg : Int) 17592186044415 = ((pg % 17592186044416 : Nat) : Int) := and_low 44 17592186044415 (by decide) hp (by decide)
  have h2 : litBin .and .u64 (fl : Int) 1023 = ((fl % 1024 : Nat) : Int) := and_low 10 1023 (by decide) hf (by decide)
  have h3 : litBin .shl .u64 ((pg % 17592186044416 : Nat) : Int) 10 = ((pg % 17592186044416 * 1024 : Nat) : Int) := shl_nat 10 (by decide) (by omega)
  have h4 : litBin .or .u64 ((1024 * (pg % 17592186044416) : Nat) : Int) ((fl % 1024 : Nat) : Int) = ((1024 * (pg % 17592186044416) + fl % 1024 : Nat) : Int) := or_apart (a := pg % 17592186044416) (b := fl % 1024) 10 (by omega) (by omega)
  have h5 : litBin .rem .u64 (pg : Int) 17592186044416 = ((pg % 17592186044416 : Nat) : Int) := rem_nat _ 17592186044416
  have h6 : litBin .rem .u64 (fl : Int) 1024 = ((fl % 1024 : Nat) : Int) := rem_nat _ 1024
  rw [h1, h2, h5, h6, h3, add_nat (by omega), Nat.mul_comm, h4]
  exact eql_self _
theorem pages {e : Nat} (he : e < 18446744073709551616) : litBin .and .u64 (litBin .shr .u64 (e : Int) 10) 17592186044415 = ((e / 1024 % 17592186044416 : Nat) : Int) ∧ litBin .rem .u64 (litBin .shr .u64 (e : Int) 10) 17592186044416 = ((e / 1024 % 17592186044416 : Nat) : Int) := by
  have h1 : litBin .shr .u64 (e : Int) 10 = ((e / 1024 : Nat) : Int) := shr_div e 10 (by decide)
  have h2 : litBin .and .u64 ((e / 1024 : Nat) : Int) 17592186044415 = ((e / 1024 % 17592186044416 : Nat) : Int) := and_low 44 17592186044415 (by decide) (by omega) (by decide)
  have h3 : litBin .rem .u64 ((e / 1024 : Nat) : Int) 17592186044416 = ((e / 1024 % 17592186044416 : Nat) : Int) := rem_nat _ 17592186044416
  rw [h1]
  exact ⟨h2, h3⟩
theorem page_eq {e : Nat} (he : e < 18446744073709551616) : litCmp .eql (litBin .and .u64 (litBin .shr .u64 (e : Int) 10) 17592186044415) (litBin .rem .u64 (litBin .shr .u64 (e : Int) 10) 17592186044416) = true := by
  rw [(pages he).1, (pages he).2]
  exact eql_self _
theorem aligned {e : Nat} (he : e < 18446744073709551616) (k M N : Nat) (hk : k ≤ 18) (hM : M = 2 ^ k - 1) (hN : N = 2 ^ k) : litCmp .eql (litBin .rem .u64 (litBin .rem .u64 (litBin .shr .u64 (e : Int) 10) 17592186044416) (N : Int)) 0 = litCmp .eql (litBin .and .u64 (litBin .and .u64 (litBin .shr .u64 (e : Int) 10) 17592186044415) (M : Int)) 0 := by
  have hl : (2 : Nat) ^ k ≤ 2 ^ 18 := Nat.pow_le_pow_right (by decide) hk
  have hM' : M < 18446744073709551616 := by
    have : (2 : Nat) ^ 18 < 18446744073709551616 := by decide
    omega
  rw [(pages he).1, (pages he).2, and_low k M hM (by omega) hM', hN, rem_nat]
theorem ats {e va : Nat} (he : e < 18446744073709551616) (hv : va < 18446744073709551616) (k M N : Nat) (hk : k ≤ 55) (hM : M = 2 ^ k - 1) (hN : N = 2 ^ k) : litCmp .eql (litBin .or .u64 (litBin .andNot .u64 (litBin .shl .u64 (litBin .and .u64 (litBin .shr .u64 (e : Int) 10) 17592186044415) 12) (M : Int)) (litBin .and .u64 (va : Int) (M : Int))) (litBin .add .u64 (litBin .mul .u64 (litBin .quo .u64 (litBin .mul .u64 (litBin .rem .u64 (litBin .shr .u64 (e : Int) 10) 17592186044416) 4096) (N : Int)) (N : Int)) (litBin .rem .u64 (va : Int) (N : Int))) = true := by
  have hk' : (2 : Nat) ^ k ≤ 2 ^ 55 := Nat.pow_le_pow_right (by decide) hk
  have h55 : (2 : Nat) ^ 55 < 36028797018963969 := by decide
  have hM' : M < 18446744073709551616 := by omega
  have h1 : litBin .shl .u64 ((e / 1024 % 17592186044416 : Nat) : Int) 12 = ((e / 1024 % 17592186044416 * 4096 : Nat) : Int) := shl_nat 12 (by decide) (by omega)
  have h2 : litBin .mul .u64 ((e / 1024 % 17592186044416 : Nat) : Int) 4096 = ((e / 1024 % 17592186044416 * 4096 : Nat) : Int) := mul_nat (n := e / 1024 % 17592186044416) (m := 4096) (by omega)
  have hX : e / 1024 % 17592186044416 * 4096 < 72057594037927936 := by omega
  rw [(pages he).1, (pages he).2, h1, h2]
  generalize e / 1024 % 17592186044416 * 4096 = X at hX
  have hx : 2 ^ k * (X / 2 ^ k) ≤ X := Nat.mul_div_le X (2 ^ k)
  have hr : va % 2 ^ k < 2 ^ k := Nat.mod_lt _ (Nat.two_pow_pos k)
  rw [andNot_low k M hM (by omega) hM', and_low k M hM hv hM', hN, quo_nat _ (by omega), rem_nat, mul_nat (by rw [Nat.mul_comm]; omega), or_apart k hr (by omega), add_nat (by rw [Nat.mul_comm]; omega), Nat.mul_comm]
  exact eql_self _
theorem vpns {va : Nat} (hv : va < 18446744073709551616) (j : Nat) (hj : j ≤ 64) : litCmp .eql (litBin .and .u64 (litBin .shr .u64 (va : Int) (j : Int)) 511) (litBin .rem .u64 (litBin .shr .u64 (va : Int) (j : Int)) 512) = true := by
  have h1 : litBin .and .u64 ((va / 2 ^ j : Nat) : Int) 511 = ((va / 2 ^ j % 512 : Nat) : Int) := and_low 9 511 (by decide) (Nat.lt_of_le_of_lt (Nat.div_le_self _ _) hv) (by decide)
  have h2 : litBin .rem .u64 ((va / 2 ^ j : Nat) : Int) 512 = ((va / 2 ^ j % 512 : Nat) : Int) := rem_nat _ 512
  rw [shr_div va j hj, h1, h2]
  exact eql_self _
theorem low {va : Nat} (hv : va < 18446744073709551616) : litCmp .eql (litBin .shr .i64 (IntKind.wrap .i64 (va : Int)) 38) 0 = litCmp .eql (litBin .shr .u64 (va : Int) 38) 0 := by
  have h : litBin .shr .u64 (va : Int) 38 = ((va / 274877906944 : Nat) : Int) := shr_div va 38 (by decide)
  rw [h, shri, wrapi, eql_eq, eql_eq]
  by_cases g : va < 274877906944
  · rw [decide_eq_true (by omega), decide_eq_true (by omega)]
  · rw [decide_eq_false (by omega), decide_eq_false (by omega)]
theorem high {va : Nat} (hv : va < 18446744073709551616) : litCmp .eql (litBin .shr .i64 (IntKind.wrap .i64 (va : Int)) 38) (-1) = litCmp .eql (litBin .shr .u64 (va : Int) 38) 67108863 := by
  have h : litBin .shr .u64 (va : Int) 38 = ((va / 274877906944 : Nat) : Int) := shr_div va 38 (by decide)
  rw [h, shri, wrapi, eql_eq, eql_eq]
  by_cases g : 18446744073709551615 - va < 274877906944
  · rw [decide_eq_true (by omega), decide_eq_true (by omega)]
  · rw [decide_eq_false (by omega), decide_eq_false (by omega)]
theorem whole {e : Nat} (he : e < 18446744073709551616) : litCmp .eql (litBin .shl .u64 (litBin .and .u64 (litBin .shr .u64 (e : Int) 10) 17592186044415) 12) (litBin .mul .u64 (litBin .rem .u64 (litBin .shr .u64 (e : Int) 10) 17592186044416) 4096) = true := by
  have h1 : litBin .shl .u64 ((e / 1024 % 17592186044416 : Nat) : Int) 12 = ((e / 1024 % 17592186044416 * 4096 : Nat) : Int) := shl_nat 12 (by decide) (by omega)
  have h2 : litBin .mul .u64 ((e / 1024 % 17592186044416 : Nat) : Int) 4096 = ((e / 1024 % 17592186044416 * 4096 : Nat) : Int) := mul_nat (n := e / 1024 % 17592186044416) (m := 4096) (by omega)
  rw [(pages he).1, (pages he).2, h1, h2]
  exact eql_self _
end Go.Proofs.Ytbjlkapfpcmjfaa.PteW
