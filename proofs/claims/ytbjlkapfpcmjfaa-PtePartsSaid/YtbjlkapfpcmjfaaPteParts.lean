/- The statement 'PteParts': an address is made of its parts and what is within a page, and an entry of its page and flags. Conditions: none. -/
import Derived.Test.YtbjlkapfpcmjfaaCx
import Derived.Test.YtbjlkapfpcmjfaaEvTaut2
namespace Go.Proofs.Ytbjlkapfpcmjfaa.PteParts
open Go.RowKit Go.WideShapes Go.ChangeShapes Go.ChangeAt Ev
set_option linter.unusedVariables false
set_option linter.unusedSimpArgs false

def shape (x0 x1 x2 x3 x4 x5 x6 x7 x8 x9 x10 x11 x12 x13 x14 x15 x16 x17 x18 x19 x20 x21 x22 : Bool) : Bool := (cond (cond x0 true (cond x1 true x2)) false (cond (cond x3 true (cond x4 true (!(x5 == x6)))) false (cond (cond x7 true (cond x8 true (!(x9 == x10)))) false (cond (cond x11 true (cond x12 true (!(x13 == x14)))) false (cond (cond x15 true x16) (cond (cond x17 true x18) (cond x19 ((cond x20 true x21) == true) ((cond x20 true x21) == x22)) false) false)))))

def formula (pg : Int) (fl : Int) (va : Int) : Bool := shape (litCmp .neq (litBin .add .u64 (litBin .add .u64 (litBin .add .u64 (litBin .shl .u64 (litBin .and .u64 (litBin .shr .u64 va 30) 511) 30) (litBin .shl .u64 (litBin .and .u64 (litBin .shr .u64 va 21) 511) 21)) (litBin .shl .u64 (litBin .and .u64 (litBin .shr .u64 va 12) 511) 12)) (litBin .rem .u64 va 4096)) (litBin .rem .u64 va 549755813888)) (litCmp .neq (litBin .and .u64 (litBin .shr .u64 (litBin .or .u64 (litBin .shl .u64 (litBin .and .u64 pg 17592186044415) 10) (litBin .and .u64 fl 1023)) 10) 17592186044415) (litBin .rem .u64 pg 17592186044416)) (litCmp .neq (litBin .rem .u64 (litBin .or .u64 (litBin .shl .u64 (litBin .and .u64 pg 17592186044415) 10) (litBin .and .u64 fl 1023)) 1024) (litBin .rem .u64 fl 1024)) (litCmp .neq (litBin .rem .u64 (litBin .or .u64 (litBin .andNot .u64 (litBin .shl .u64 (litBin .and .u64 (litBin .shr .u64 (litBin .or .u64 (litBin .shl .u64 (litBin .and .u64 pg 17592186044415) 10) (litBin .and .u64 fl 1023)) 10) 17592186044415) 12) 4095) (litBin .and .u64 va 4095)) 4096) (litBin .rem .u64 va 4096)) (litCmp .neq (litBin .quo .u64 (litBin .or .u64 (litBin .andNot .u64 (litBin .shl .u64 (litBin .and .u64 (litBin .shr .u64 (litBin .or .u64 (litBin .shl .u64 (litBin .and .u64 pg 17592186044415) 10) (litBin .and .u64 fl 1023)) 10) 17592186044415) 12) 4095) (litBin .and .u64 va 4095)) 4096) (litBin .quo .u64 (litBin .mul .u64 (litBin .rem .u64 pg 17592186044416) 4096) 4096)) (litCmp .eql (litBin .and .u64 (litBin .and .u64 (litBin .shr .u64 (litBin .or .u64 (litBin .shl .u64 (litBin .and .u64 pg 17592186044415) 10) (litBin .and .u64 fl 1023)) 10) 17592186044415) 0) 0) (litCmp .eql (litBin .rem .u64 (litBin .mul .u64 (litBin .rem .u64 pg 17592186044416) 4096) 4096) 0) (litCmp .neq (litBin .rem .u64 (litBin .or .u64 (litBin .andNot .u64 (litBin .shl .u64 (litBin .and .u64 (litBin .shr .u64 (litBin .or .u64 (litBin .shl .u64 (litBin .and .u64 pg 17592186044415) 10) (litBin .and .u64 fl 1023)) 10) 17592186044415) 12) 2097151) (litBin .and .u64 va 2097151)) 2097152) (litBin .rem .u64 va 2097152)) (litCmp .neq (litBin .quo .u64 (litBin .or .u64 (litBin .andNot .u64 (litBin .shl .u64 (litBin .and .u64 (litBin .shr .u64 (litBin .or .u64 (litBin .shl .u64 (litBin .and .u64 pg 17592186044415) 10) (litBin .and .u64 fl 1023)) 10) 17592186044415) 12) 2097151) (litBin .and .u64 va 2097151)) 2097152) (litBin .quo .u64 (litBin .mul .u64 (litBin .rem .u64 pg 17592186044416) 4096) 2097152)) (litCmp .eql (litBin .and .u64 (litBin .and .u64 (litBin .shr .u64 (litBin .or .u64 (litBin .shl .u64 (litBin .and .u64 pg 17592186044415) 10) (litBin .and .u64 fl 1023)) 10) 17592186044415) 511) 0) (litCmp .eql (litBin .rem .u64 (litBin .mul .u64 (litBin .rem .u64 pg 17592186044416) 4096) 2097152) 0) (litCmp .neq (litBin .rem .u64 (litBin .or .u64 (litBin .andNot .u64 (litBin .shl .u64 (litBin .and .u64 (litBin .shr .u64 (litBin .or .u64 (litBin .shl .u64 (litBin .and .u64 pg 17592186044415) 10) (litBin .and .u64 fl 1023)) 10) 17592186044415) 12) 1073741823) (litBin .and .u64 va 1073741823)) 1073741824) (litBin .rem .u64 va 1073741824)) (litCmp .neq (litBin .quo .u64 (litBin .or .u64 (litBin .andNot .u64 (litBin .shl .u64 (litBin .and .u64 (litBin .shr .u64 (litBin .or .u64 (litBin .shl .u64 (litBin .and .u64 pg 17592186044415) 10) (litBin .and .u64 fl 1023)) 10) 17592186044415) 12) 1073741823) (litBin .and .u64 va 1073741823)) 1073741824) (litBin .quo .u64 (litBin .mul .u64 (litBin .rem .u64 pg 17592186044416) 4096) 1073741824)) (litCmp .eql (litBin .and .u64 (litBin .and .u64 (litBin .shr .u64 (litBin .or .u64 (litBin .shl .u64 (litBin .and .u64 pg 17592186044415) 10) (litBin .and .u64 fl 1023)) 10) 17592186044415) 262143) 0) (litCmp .eql (litBin .rem .u64 (litBin .mul .u64 (litBin .rem .u64 pg 17592186044416) 4096) 1073741824) 0) (litCmp .eql (litBin .shr .i64 (IntKind.wrap .i64 (litBin .rem .u64 va 274877906944)) 38) 0) (litCmp .eql (litBin .shr .i64 (IntKind.wrap .i64 (litBin .rem .u64 va 274877906944)) 38) (-1)) (litCmp .eql (litBin .shr .i64 (IntKind.wrap .i64 (litBin .or .u64 va 18446743798831644672)) 38) 0) (litCmp .eql (litBin .shr .i64 (IntKind.wrap .i64 (litBin .or .u64 va 18446743798831644672)) 38) (-1)) (litCmp .eql (litBin .shr .u64 va 38) 0) (litCmp .eql (litBin .shr .i64 (IntKind.wrap .i64 va) 38) 0) (litCmp .eql (litBin .shr .i64 (IntKind.wrap .i64 va) 38) (-1)) (litCmp .eql (litBin .shr .u64 (litUna .xor .u64 va) 38) 0)

set_option maxRecDepth 100000 in
theorem evals (pg : Int) (fl : Int) (va : Int) : (call Try.prog cx 400 15 [.int .u64 (.sym pg), .int .u64 (.sym fl), .int .u64 (.sym va)] []).pick.map (·.1) = some (.val (.bool (.sym (formula pg fl va)))) := by kernel_rfl

set_option maxRecDepth 100000 in
/-- The formula of bits. -/
def bits : BE := .cond (.cond (.lit false) (.lit true) (.cond (.lit false) (.lit true) (.lit false))) (.lit false) (.cond (.cond (.lit false) (.lit true) (.cond (.lit false) (.lit true) (.not (.beq (.lit true) (.lit true))))) (.lit false) (.cond (.cond (.lit false) (.lit true) (.cond (.lit false) (.lit true) (.not (.beq (.and (.beq (.v 8) (.lit false)) (.and (.beq (.v 7) (.lit false)) (.and (.beq (.v 6) (.lit false)) (.and (.beq (.v 5) (.lit false)) (.and (.beq (.v 4) (.lit false)) (.and (.beq (.v 3) (.lit false)) (.and (.beq (.v 2) (.lit false)) (.and (.beq (.v 1) (.lit false)) (.and (.beq (.v 0) (.lit false)) (.lit true)))))))))) (.and (.beq (.v 8) (.lit false)) (.and (.beq (.v 7) (.lit false)) (.and (.beq (.v 6) (.lit false)) (.and (.beq (.v 5) (.lit false)) (.and (.beq (.v 4) (.lit false)) (.and (.beq (.v 3) (.lit false)) (.and (.beq (.v 2) (.lit false)) (.and (.beq (.v 1) (.lit false)) (.and (.beq (.v 0) (.lit false)) (.lit true)))))))))))))) (.lit false) (.cond (.cond (.lit false) (.lit true) (.cond (.lit false) (.lit true) (.not (.beq (.and (.beq (.v 8) (.lit false)) (.and (.beq (.v 7) (.lit false)) (.and (.beq (.v 6) (.lit false)) (.and (.beq (.v 5) (.lit false)) (.and (.beq (.v 4) (.lit false)) (.and (.beq (.v 3) (.lit false)) (.and (.beq (.v 2) (.lit false)) (.and (.beq (.v 1) (.lit false)) (.and (.beq (.v 0) (.lit false)) (.and (.beq (.v 17) (.lit false)) (.and (.beq (.v 16) (.lit false)) (.and (.beq (.v 15) (.lit false)) (.and (.beq (.v 14) (.lit false)) (.and (.beq (.v 13) (.lit false)) (.and (.beq (.v 12) (.lit false)) (.and (.beq (.v 11) (.lit false)) (.and (.beq (.v 10) (.lit false)) (.and (.beq (.v 9) (.lit false)) (.lit true))))))))))))))))))) (.and (.beq (.v 8) (.lit false)) (.and (.beq (.v 7) (.lit false)) (.and (.beq (.v 6) (.lit false)) (.and (.beq (.v 5) (.lit false)) (.and (.beq (.v 4) (.lit false)) (.and (.beq (.v 3) (.lit false)) (.and (.beq (.v 2) (.lit false)) (.and (.beq (.v 1) (.lit false)) (.and (.beq (.v 0) (.lit false)) (.and (.beq (.v 17) (.lit false)) (.and (.beq (.v 16) (.lit false)) (.and (.beq (.v 15) (.lit false)) (.and (.beq (.v 14) (.lit false)) (.and (.beq (.v 13) (.lit false)) (.and (.beq (.v 12) (.lit false)) (.and (.beq (.v 11) (.lit false)) (.and (.beq (.v 10) (.lit false)) (.and (.beq (.v 9) (.lit false)) (.lit true))))))))))))))))))))))) (.lit false) (.cond (.cond (.lit true) (.lit true) (.v 18)) (.cond (.cond (.lit false) (.lit true) (.lit true)) (.cond (.v 19) (.beq (.cond (.v 19) (.lit true) (.v 20)) (.lit true)) (.beq (.cond (.v 19) (.lit true) (.v 20)) (.v 20))) (.lit false)) (.lit false)))))

set_option maxRecDepth 100000 in
theorem true_bits : BE.taut2 22 bits = true := by kernel_rfl

theorem neq_self (x : Int) : litCmp .neq x x = false := by rw [neq_eq, decide_eq_true rfl]; rfl
theorem eql_self (x : Int) : litCmp .eql x x = true := by rw [eql_eq]; exact decide_eq_true rfl
theorem and_low {n : Nat} (k M : Nat) (hM : M = 2 ^ k - 1) (hn : n < 18446744073709551616) (hl : M < 18446744073709551616) : litBin .and .u64 (n : Int) (M : Int) = ((n % 2 ^ k : Nat) : Int) := by
  rw [and_nat hn hl, hM, Nat.and_two_pow_sub_one_eq_mod]
theorem or_apart {a b : Nat} (k : Nat) (hb : b < 2 ^ k) (h : 2 ^ k * a + b < 18446744073709551616) : litBin .or .u64 ((2 ^ k * a : Nat) : Int) (b : Int) = ((2 ^ k * a + b : Nat) : Int) := by
  rw [or_nat (by omega) (by omega), ← Nat.two_pow_add_eq_or_of_lt hb a]
theorem andNot_low {n : Nat} (k M : Nat) (hM : M = 2 ^ k - 1) (hn : n < 18446744073709551616) (hl : M < 18446744073709551616) : litBin .andNot .u64 (n : Int) (M : Int) = ((2 ^ k * (n / 2 ^ k) : Nat) : Int) := by
  have hx : 2 ^ k * (n / 2 ^ k) ≤ n := Nat.mul_div_le n (2 ^ k)
  refine eq_of_bits (inU.andNot _ _) (inU_nat (by omega)) fun i => ?_
  rw [bit_andNot (inU_nat hn) (inU_nat hl), bit_nat, bit_nat, bit_nat, hM, Nat.testBit_two_pow_sub_one, Nat.testBit_two_pow_mul, Nat.testBit_div_two_pow]
  by_cases h : i < k
  · have e : ¬ k ≤ i := by omega
    simp [h, e]
  · have e : i - k + k = i := by omega
    simp [h, e]
    try (intro _; omega)
theorem rem_nat (n m : Nat) : litBin .rem .u64 (n : Int) (m : Int) = ((n % m : Nat) : Int) := rfl
theorem quo_nat {n : Nat} (m : Nat) (hn : n < 18446744073709551616) : litBin .quo .u64 (n : Int) (m : Int) = ((n / m : Nat) : Int) :=
  wrap_nat (n := n / m) (Nat.lt_of_le_of_lt (Nat.div_le_self _ _) hn)
theorem mul_nat {n m : Nat} (h : n * m < 18446744073709551616) : litBin .mul .u64 (n : Int) (m : Int) = ((n * m : Nat) : Int) :=
  wrap_nat (n := n * m) h
theorem add_nat {n m : Nat} (h : n + m < 18446744073709551616) : litBin .add .u64 (n : Int) (m : Int) = ((n + m : Nat) : Int) :=
  wrap_nat (n := n + m) h
theorem shl_nat {n : Nat} (j : Nat) (hj : j ≤ 64) (h : n * 2 ^ j < 18446744073709551616) : litBin .shl .u64 (n : Int) (j : Int) = ((n * 2 ^ j : Nat) : Int) := by
  show IntKind.u64.wrap ((n : Int) * 2 ^ (min ((j : Int).toNat) 64)) = _
  rw [Int.toNat_natCast, Nat.min_eq_left hj, ← wrap_nat h]
  simp
theorem shr_div (x j : Nat) (hj : j ≤ 64) : litBin .shr .u64 (x : Int) (j : Int) = ((x / 2 ^ j : Nat) : Int) := by
  rw [shr_nat x j hj, Nat.shiftRight_eq_div_pow]

set_option linter.unusedSectionVars false
section
variable {pg fl va : Nat} (hp : pg < 18446744073709551616) (hf : fl < 18446744073709551616) (hv : va < 18446744073709551616)
include hp hf hv
theorem eE : litBin .or .u64 (litBin .shl .u64 (litBin .and .u64 (pg : Int) 17592186044415) 10) (litBin .and .u64 (fl : Int) 1023) = ((1024 * (pg % 17592186044416) + fl % 1024 : Nat) : Int) := by
  have h1 : litBin .and .u64 (pg : Int) 17592186044415 = ((pg % 17592186044416 : Nat) : Int) := and_low 44 17592186044415 (by decide) hp (by decide)
  have h2 : litBin .and .u64 (fl : Int) 1023 = ((fl % 1024 : Nat) : Int) := and_low 10 1023 (by decide) hf (by decide)
  have h3 : litBin .shl .u64 ((pg % 17592186044416 : Nat) : Int) 10 = ((pg % 17592186044416 * 1024 : Nat) : Int) := shl_nat 10 (by decide) (by omega)
  have h4 : litBin .or .u64 ((1024 * (pg % 17592186044416) : Nat) : Int) ((fl % 1024 : Nat) : Int) = ((1024 * (pg % 17592186044416) + fl % 1024 : Nat) : Int) := or_apart (a := pg % 17592186044416) (b := fl % 1024) 10 (by omega) (by omega)
  rw [h1, h2, h3, Nat.mul_comm, h4]
theorem eQ : litBin .and .u64 (litBin .shr .u64 ((1024 * (pg % 17592186044416) + fl % 1024 : Nat) : Int) 10) 17592186044415 = ((pg % 17592186044416 : Nat) : Int) := by
  have h1 : litBin .shr .u64 ((1024 * (pg % 17592186044416) + fl % 1024 : Nat) : Int) 10 = (((1024 * (pg % 17592186044416) + fl % 1024) / 1024 : Nat) : Int) := shr_div _ 10 (by decide)
  have h2 : (1024 * (pg % 17592186044416) + fl % 1024) / 1024 = pg % 17592186044416 := by omega
  have h3 : litBin .and .u64 ((pg % 17592186044416 : Nat) : Int) 17592186044415 = ((pg % 17592186044416 % 17592186044416 : Nat) : Int) := and_low 44 17592186044415 (by decide) (by omega) (by decide)
  rw [h1, h2, h3, Nat.mod_mod]
theorem eX : litBin .shl .u64 ((pg % 17592186044416 : Nat) : Int) 12 = ((pg % 17592186044416 * 4096 : Nat) : Int) := shl_nat 12 (by decide) (by omega)
theorem eR : litBin .rem .u64 (pg : Int) 17592186044416 = ((pg % 17592186044416 : Nat) : Int) := rem_nat pg 17592186044416
theorem eM : litBin .mul .u64 ((pg % 17592186044416 : Nat) : Int) 4096 = ((pg % 17592186044416 * 4096 : Nat) : Int) := mul_nat (n := pg % 17592186044416) (m := 4096) (by omega)
theorem eG {X : Nat} (hX : X < 72057594037927936) (k M : Nat) (hk : k ≤ 55) (hM : M = 2 ^ k - 1) : litBin .or .u64 (litBin .andNot .u64 (X : Int) (M : Int)) (litBin .and .u64 (va : Int) (M : Int)) = ((2 ^ k * (X / 2 ^ k) + va % 2 ^ k : Nat) : Int) := by
  have hk' : 2 ^ k ≤ 2 ^ 55 := Nat.pow_le_pow_right (by decide) hk
  have hM' : M < 18446744073709551616 := by
    have : (2 : Nat) ^ 55 < 18446744073709551616 := by decide
    omega
  have hx : 2 ^ k * (X / 2 ^ k) ≤ X := Nat.mul_div_le X (2 ^ k)
  have hr : va % 2 ^ k < 2 ^ k := Nat.mod_lt _ (Nat.two_pow_pos k)
  rw [andNot_low k M hM (by omega) hM', and_low k M hM hv hM']
  refine or_apart k hr ?_
  have : (2 : Nat) ^ 55 < 36028797018963969 := by decide
  omega
theorem k1 : (litCmp .neq (litBin .and .u64 (litBin .shr .u64 (litBin .or .u64 (litBin .shl .u64 (litBin .and .u64 (pg : Int) 17592186044415) 10) (litBin .and .u64 (fl : Int) 1023)) 10) 17592186044415) (litBin .rem .u64 (pg : Int) 17592186044416)) = false := by
  rw [eE hp hf hv, eQ hp hf hv, eR hp hf hv]; exact neq_self _
theorem k2 : (litCmp .neq (litBin .rem .u64 (litBin .or .u64 (litBin .shl .u64 (litBin .and .u64 (pg : Int) 17592186044415) 10) (litBin .and .u64 (fl : Int) 1023)) 1024) (litBin .rem .u64 (fl : Int) 1024)) = false := by
  have h : litBin .rem .u64 ((1024 * (pg % 17592186044416) + fl % 1024 : Nat) : Int) 1024 = (((1024 * (pg % 17592186044416) + fl % 1024) % 1024 : Nat) : Int) := rem_nat _ 1024
  have h2 : litBin .rem .u64 (fl : Int) 1024 = ((fl % 1024 : Nat) : Int) := rem_nat _ 1024
  have h3 : (1024 * (pg % 17592186044416) + fl % 1024) % 1024 = fl % 1024 := by omega
  rw [eE hp hf hv, h, h2, h3]; exact neq_self _
theorem g12 : litBin .or .u64 (litBin .andNot .u64 ((pg % 17592186044416 * 4096 : Nat) : Int) 4095) (litBin .and .u64 (va : Int) 4095) = ((4096 * (pg % 17592186044416 * 4096 / 4096) + va % 4096 : Nat) : Int) := eG hp hf hv (by omega) 12 4095 (by decide) (by decide)
theorem k3 : (litCmp .neq (litBin .rem .u64 (litBin .or .u64 (litBin .andNot .u64 (litBin .shl .u64 (litBin .and .u64 (litBin .shr .u64 (litBin .or .u64 (litBin .shl .u64 (litBin .and .u64 (pg : Int) 17592186044415) 10) (litBin .and .u64 (fl : Int) 1023)) 10) 17592186044415) 12) 4095) (litBin .and .u64 (va : Int) 4095)) 4096) (litBin .rem .u64 (va : Int) 4096)) = false := by
  have h : litBin .rem .u64 ((4096 * (pg % 17592186044416 * 4096 / 4096) + va % 4096 : Nat) : Int) 4096 = (((4096 * (pg % 17592186044416 * 4096 / 4096) + va % 4096) % 4096 : Nat) : Int) := rem_nat _ 4096
  have h2 : litBin .rem .u64 (va : Int) 4096 = ((va % 4096 : Nat) : Int) := rem_nat _ 4096
  have h3 : (4096 * (pg % 17592186044416 * 4096 / 4096) + va % 4096) % 4096 = va % 4096 := by omega
  rw [eE hp hf hv, eQ hp hf hv, eX hp hf hv, g12 hp hf hv, h, h2, h3]; exact neq_self _
theorem k4 : (litCmp .neq (litBin .quo .u64 (litBin .or .u64 (litBin .andNot .u64 (litBin .shl .u64 (litBin .and .u64 (litBin .shr .u64 (litBin .or .u64 (litBin .shl .u64 (litBin .and .u64 (pg : Int) 17592186044415) 10) (litBin .and .u64 (fl : Int) 1023)) 10) 17592186044415) 12) 4095) (litBin .and .u64 (va : Int) 4095)) 4096) (litBin .quo .u64 (litBin .mul .u64 (litBin .rem .u64 (pg : Int) 17592186044416) 4096) 4096)) = false := by
  have h : litBin .quo .u64 ((4096 * (pg % 17592186044416 * 4096 / 4096) + va % 4096 : Nat) : Int) 4096 = (((4096 * (pg % 17592186044416 * 4096 / 4096) + va % 4096) / 4096 : Nat) : Int) := quo_nat 4096 (by omega)
  have h2 : litBin .quo .u64 ((pg % 17592186044416 * 4096 : Nat) : Int) 4096 = ((pg % 17592186044416 * 4096 / 4096 : Nat) : Int) := quo_nat 4096 (by omega)
  have h3 : (4096 * (pg % 17592186044416 * 4096 / 4096) + va % 4096) / 4096 = pg % 17592186044416 * 4096 / 4096 := by omega
  rw [eE hp hf hv, eQ hp hf hv, eX hp hf hv, eR hp hf hv, eM hp hf hv, g12 hp hf hv, h, h2, h3]; exact neq_self _
theorem k5 : (litCmp .eql (litBin .and .u64 (litBin .and .u64 (litBin .shr .u64 (litBin .or .u64 (litBin .shl .u64 (litBin .and .u64 (pg : Int) 17592186044415) 10) (litBin .and .u64 (fl : Int) 1023)) 10) 17592186044415) 0) 0) = true := by
  have h : litBin .and .u64 ((pg % 17592186044416 : Nat) : Int) 0 = ((pg % 17592186044416 % 1 : Nat) : Int) := and_low 0 0 (by decide) (by omega) (by decide)
  have h3 : pg % 17592186044416 % 1 = 0 := by omega
  rw [eE hp hf hv, eQ hp hf hv, h, h3]; exact eql_self _
theorem k6 : (litCmp .eql (litBin .rem .u64 (litBin .mul .u64 (litBin .rem .u64 (pg : Int) 17592186044416) 4096) 4096) 0) = true := by
  have h : litBin .rem .u64 ((pg % 17592186044416 * 4096 : Nat) : Int) 4096 = ((pg % 17592186044416 * 4096 % 4096 : Nat) : Int) := rem_nat _ 4096
  have h3 : pg % 17592186044416 * 4096 % 4096 = 0 := by omega
  rw [eR hp hf hv, eM hp hf hv, h, h3]; exact eql_self _
theorem g21 : litBin .or .u64 (litBin .andNot .u64 ((pg % 17592186044416 * 4096 : Nat) : Int) 2097151) (litBin .and .u64 (va : Int) 2097151) = ((2097152 * (pg % 17592186044416 * 4096 / 2097152) + va % 2097152 : Nat) : Int) := eG hp hf hv (by omega) 21 2097151 (by decide) (by decide)
theorem k7 : (litCmp .neq (litBin .rem .u64 (litBin .or .u64 (litBin .andNot .u64 (litBin .shl .u64 (litBin .and .u64 (litBin .shr .u64 (litBin .or .u64 (litBin .shl .u64 (litBin .and .u64 (pg : Int) 17592186044415) 10) (litBin .and .u64 (fl : Int) 1023)) 10) 17592186044415) 12) 2097151) (litBin .and .u64 (va : Int) 2097151)) 2097152) (litBin .rem .u64 (va : Int) 2097152)) = false := by
  have h : litBin .rem .u64 ((2097152 * (pg % 17592186044416 * 4096 / 2097152) + va % 2097152 : Nat) : Int) 2097152 = (((2097152 * (pg % 17592186044416 * 4096 / 2097152) + va % 2097152) % 2097152 : Nat) : Int) := rem_nat _ 2097152
  have h2 : litBin .rem .u64 (va : Int) 2097152 = ((va % 2097152 : Nat) : Int) := rem_nat _ 2097152
  have h3 : (2097152 * (pg % 17592186044416 * 4096 / 2097152) + va % 2097152) % 2097152 = va % 2097152 := by omega
  rw [eE hp hf hv, eQ hp hf hv, eX hp hf hv, g21 hp hf hv, h, h2, h3]; exact neq_self _
theorem k8 : (litCmp .neq (litBin .quo .u64 (litBin .or .u64 (litBin .andNot .u64 (litBin .shl .u64 (litBin .and .u64 (litBin .shr .u64 (litBin .or .u64 (litBin .shl .u64 (litBin .and .u64 (pg : Int) 17592186044415) 10) (litBin .and .u64 (fl : Int) 1023)) 10) 17592186044415) 12) 2097151) (litBin .and .u64 (va : Int) 2097151)) 2097152) (litBin .quo .u64 (litBin .mul .u64 (litBin .rem .u64 (pg : Int) 17592186044416) 4096) 2097152)) = false := by
  have h : litBin .quo .u64 ((2097152 * (pg % 17592186044416 * 4096 / 2097152) + va % 2097152 : Nat) : Int) 2097152 = (((2097152 * (pg % 17592186044416 * 4096 / 2097152) + va % 2097152) / 2097152 : Nat) : Int) := quo_nat 2097152 (by omega)
  have h2 : litBin .quo .u64 ((pg % 17592186044416 * 4096 : Nat) : Int) 2097152 = ((pg % 17592186044416 * 4096 / 2097152 : Nat) : Int) := quo_nat 2097152 (by omega)
  have h3 : (2097152 * (pg % 17592186044416 * 4096 / 2097152) + va % 2097152) / 2097152 = pg % 17592186044416 * 4096 / 2097152 := by omega
  rw [eE hp hf hv, eQ hp hf hv, eX hp hf hv, eR hp hf hv, eM hp hf hv, g21 hp hf hv, h, h2, h3]; exact neq_self _
theorem k10 : (litCmp .eql (litBin .rem .u64 (litBin .mul .u64 (litBin .rem .u64 (pg : Int) 17592186044416) 4096) 2097152) 0) = (litCmp .eql (litBin .and .u64 (litBin .and .u64 (litBin .shr .u64 (litBin .or .u64 (litBin .shl .u64 (litBin .and .u64 (pg : Int) 17592186044415) 10) (litBin .and .u64 (fl : Int) 1023)) 10) 17592186044415) 511) 0) := by
  have h : litBin .and .u64 ((pg % 17592186044416 : Nat) : Int) 511 = ((pg % 17592186044416 % 512 : Nat) : Int) := and_low 9 511 (by decide) (by omega) (by decide)
  have h2 : litBin .rem .u64 ((pg % 17592186044416 * 4096 : Nat) : Int) 2097152 = ((pg % 17592186044416 * 4096 % 2097152 : Nat) : Int) := rem_nat _ 2097152
  rw [eR hp hf hv, eM hp hf hv, h2, eE hp hf hv, eQ hp hf hv, h, eql_eq, eql_eq]
  by_cases g : pg % 17592186044416 % 512 = 0
  · have g2 : pg % 17592186044416 * 4096 % 2097152 = 0 := by omega
    rw [g, g2]
  · have g2 : ¬ pg % 17592186044416 * 4096 % 2097152 = 0 := by omega
    rw [decide_eq_false (by omega), decide_eq_false (by omega)]
theorem g30 : litBin .or .u64 (litBin .andNot .u64 ((pg % 17592186044416 * 4096 : Nat) : Int) 1073741823) (litBin .and .u64 (va : Int) 1073741823) = ((1073741824 * (pg % 17592186044416 * 4096 / 1073741824) + va % 1073741824 : Nat) : Int) := eG hp hf hv (by omega) 30 1073741823 (by decide) (by decide)
theorem k11 : (litCmp .neq (litBin .rem .u64 (litBin .or .u64 (litBin .andNot .u64 (litBin .shl .u64 (litBin .and .u64 (litBin .shr .u64 (litBin .or .u64 (litBin .shl .u64 (litBin .and .u64 (pg : Int) 17592186044415) 10) (litBin .and .u64 (fl : Int) 1023)) 10) 17592186044415) 12) 1073741823) (litBin .and .u64 (va : Int) 1073741823)) 1073741824) (litBin .rem .u64 (va : Int) 1073741824)) = false := by
  have h : litBin .rem .u64 ((1073741824 * (pg % 17592186044416 * 4096 / 1073741824) + va % 1073741824 : Nat) : Int) 1073741824 = (((1073741824 * (pg % 17592186044416 * 4096 / 1073741824) + va % 1073741824) % 1073741824 : Nat) : Int) := rem_nat _ 1073741824
  have h2 : litBin .rem .u64 (va : Int) 1073741824 = ((va % 1073741824 : Nat) : Int) := rem_nat _ 1073741824
  have h3 : (1073741824 * (pg % 17592186044416 * 4096 / 1073741824) + va % 1073741824) % 1073741824 = va % 1073741824 := by omega
  rw [eE hp hf hv, eQ hp hf hv, eX hp hf hv, g30 hp hf hv, h, h2, h3]; exact neq_self _
theorem k12 : (litCmp .neq (litBin .quo .u64 (litBin .or .u64 (litBin .andNot .u64 (litBin .shl .u64 (litBin .and .u64 (litBin .shr .u64 (litBin .or .u64 (litBin .shl .u64 (litBin .and .u64 (pg : Int) 17592186044415) 10) (litBin .and .u64 (fl : Int) 1023)) 10) 17592186044415) 12) 1073741823) (litBin .and .u64 (va : Int) 1073741823)) 1073741824) (litBin .quo .u64 (litBin .mul .u64 (litBin .rem .u64 (pg : Int) 17592186044416) 4096) 1073741824)) = false := by
  have h : litBin .quo .u64 ((1073741824 * (pg % 17592186044416 * 4096 / 1073741824) + va % 1073741824 : Nat) : Int) 1073741824 = (((1073741824 * (pg % 17592186044416 * 4096 / 1073741824) + va % 1073741824) / 1073741824 : Nat) : Int) := quo_nat 1073741824 (by omega)
  have h2 : litBin .quo .u64 ((pg % 17592186044416 * 4096 : Nat) : Int) 1073741824 = ((pg % 17592186044416 * 4096 / 1073741824 : Nat) : Int) := quo_nat 1073741824 (by omega)
  have h3 : (1073741824 * (pg % 17592186044416 * 4096 / 1073741824) + va % 1073741824) / 1073741824 = pg % 17592186044416 * 4096 / 1073741824 := by omega
  rw [eE hp hf hv, eQ hp hf hv, eX hp hf hv, eR hp hf hv, eM hp hf hv, g30 hp hf hv, h, h2, h3]; exact neq_self _
theorem k14 : (litCmp .eql (litBin .rem .u64 (litBin .mul .u64 (litBin .rem .u64 (pg : Int) 17592186044416) 4096) 1073741824) 0) = (litCmp .eql (litBin .and .u64 (litBin .and .u64 (litBin .shr .u64 (litBin .or .u64 (litBin .shl .u64 (litBin .and .u64 (pg : Int) 17592186044415) 10) (litBin .and .u64 (fl : Int) 1023)) 10) 17592186044415) 262143) 0) := by
  have h : litBin .and .u64 ((pg % 17592186044416 : Nat) : Int) 262143 = ((pg % 17592186044416 % 262144 : Nat) : Int) := and_low 18 262143 (by decide) (by omega) (by decide)
  have h2 : litBin .rem .u64 ((pg % 17592186044416 * 4096 : Nat) : Int) 1073741824 = ((pg % 17592186044416 * 4096 % 1073741824 : Nat) : Int) := rem_nat _ 1073741824
  rw [eR hp hf hv, eM hp hf hv, h2, eE hp hf hv, eQ hp hf hv, h, eql_eq, eql_eq]
  by_cases g : pg % 17592186044416 % 262144 = 0
  · have g2 : pg % 17592186044416 * 4096 % 1073741824 = 0 := by omega
    rw [g, g2]
  · have g2 : ¬ pg % 17592186044416 * 4096 % 1073741824 = 0 := by omega
    rw [decide_eq_false (by omega), decide_eq_false (by omega)]
end
theorem wrapi (x : Int) : IntKind.i64.wrap x = (x + 9223372036854775808) % 18446744073709551616 - 9223372036854775808 := by
  simp [IntKind.wrap, IntKind.signed, IntKind.bits]
  try omega
theorem shri (a : Int) : litBin .shr .i64 a 38 = a / 274877906944 := by
  show Int.fdiv a (2 ^ (min ((38 : Int).toNat) 64)) = _
  rw [Int.fdiv_eq_ediv_of_nonneg _ (by decide)]
  rfl
section
variable {va : Nat} (hv : va < 18446744073709551616)
include hv
theorem k0 : (litCmp .neq (litBin .add .u64 (litBin .add .u64 (litBin .add .u64 (litBin .shl .u64 (litBin .and .u64 (litBin .shr .u64 (va : Int) 30) 511) 30) (litBin .shl .u64 (litBin .and .u64 (litBin .shr .u64 (va : Int) 21) 511) 21)) (litBin .shl .u64 (litBin .and .u64 (litBin .shr .u64 (va : Int) 12) 511) 12)) (litBin .rem .u64 (va : Int) 4096)) (litBin .rem .u64 (va : Int) 549755813888)) = false := by
  have p1 : ∀ j k : Nat, j ≤ 30 → k = 2 ^ j → litBin .shl .u64 (litBin .and .u64 (litBin .shr .u64 (va : Int) (j : Int)) 511) (j : Int) = ((va / k % 512 * k : Nat) : Int) := fun j k hj hk => by
    have hk' : k ≤ 1073741824 := by rw [hk]; exact Nat.le_trans (Nat.pow_le_pow_right (by decide) hj) (by decide)
    have h1 : litBin .shr .u64 (va : Int) (j : Int) = ((va / k : Nat) : Int) := by rw [hk]; exact shr_div _ j (by omega)
    have h2 : litBin .and .u64 ((va / k : Nat) : Int) 511 = ((va / k % 512 : Nat) : Int) := and_low 9 511 (by decide) (Nat.lt_of_le_of_lt (Nat.div_le_self _ _) hv) (by decide)
    have h4 : va / k % 512 * k ≤ 512 * 1073741824 := Nat.mul_le_mul (by omega) hk'
    rw [h1, h2, shl_nat j (by omega) (by rw [← hk]; omega), hk]
  have a1 : litBin .shl .u64 (litBin .and .u64 (litBin .shr .u64 (va : Int) 30) 511) 30 = ((va / 1073741824 % 512 * 1073741824 : Nat) : Int) := p1 30 _ (by decide) (by decide)
  have a2 : litBin .shl .u64 (litBin .and .u64 (litBin .shr .u64 (va : Int) 21) 511) 21 = ((va / 2097152 % 512 * 2097152 : Nat) : Int) := p1 21 _ (by decide) (by decide)
  have a3 : litBin .shl .u64 (litBin .and .u64 (litBin .shr .u64 (va : Int) 12) 511) 12 = ((va / 4096 % 512 * 4096 : Nat) : Int) := p1 12 _ (by decide) (by decide)
  have a4 : litBin .rem .u64 (va : Int) 4096 = ((va % 4096 : Nat) : Int) := rem_nat _ 4096
  have a5 : litBin .rem .u64 (va : Int) 549755813888 = ((va % 549755813888 : Nat) : Int) := rem_nat _ 549755813888
  rw [a1, a2, a3, a4, a5, add_nat (by omega), add_nat (by omega), add_nat (by omega)]
  have e : va / 1073741824 % 512 * 1073741824 + va / 2097152 % 512 * 2097152 + va / 4096 % 512 * 4096 + va % 4096 = va % 549755813888 := by omega
  rw [e]
  exact neq_self _
theorem k15 : (litCmp .eql (litBin .shr .i64 (IntKind.wrap .i64 (litBin .rem .u64 (va : Int) 274877906944)) 38) 0) = true := by
  have h : litBin .rem .u64 (va : Int) 274877906944 = ((va % 274877906944 : Nat) : Int) := rem_nat _ 274877906944
  rw [h, shri, wrapi, eql_eq]
  exact decide_eq_true (by omega)
theorem k18 : (litCmp .eql (litBin .shr .i64 (IntKind.wrap .i64 (litBin .or .u64 (va : Int) 18446743798831644672)) 38) 0) = false ∧ (litCmp .eql (litBin .shr .i64 (IntKind.wrap .i64 (litBin .or .u64 (va : Int) 18446743798831644672)) 38) (-1)) = true := by
  obtain ⟨n, e, hn⟩ := (inU.or (va : Int) 18446743798831644672).nat
  have hb : ∀ i, n.testBit i = (va.testBit i || (18446743798831644672 : Nat).testBit i) := fun i => by
    have := bit_or (inU_nat hv) (inU_nat (n := 18446743798831644672) (by decide)) i
    rw [← bit_nat, ← e]
    exact this
  have hq : n / 274877906944 = 67108863 := by
    refine Nat.eq_of_testBit_eq fun i => ?_
    have h1 : (n / 2 ^ 38).testBit i = n.testBit (38 + i) := by rw [Nat.testBit_div_two_pow, Nat.add_comm]
    have h2 : (67108863 : Nat) = 18446743798831644672 / 2 ^ 38 := by decide
    have h3 : va / 2 ^ 38 < 2 ^ 26 := by omega
    show (n / 2 ^ 38).testBit i = _
    rw [h1, hb, h2, Nat.testBit_div_two_pow, Nat.add_comm i 38]
    by_cases hi : i < 26
    · have h4 : (18446743798831644672 : Nat).testBit (38 + i) = true := by
        have : ∀ j : Fin 26, (18446743798831644672 : Nat).testBit (38 + j.val) = true := by decide
        exact this ⟨i, hi⟩
      rw [h4, Bool.or_true]
    · have h4 : va.testBit (38 + i) = false := Nat.testBit_lt_two_pow (Nat.lt_of_lt_of_le (show va < 2 ^ 64 from hv) (Nat.pow_le_pow_right (by decide) (by omega)))
      rw [h4, Bool.false_or]
  rw [e, shri, wrapi, eql_eq, eql_eq]
  exact ⟨decide_eq_false (by omega), decide_eq_true (by omega)⟩
theorem k20 : (litCmp .eql (litBin .shr .i64 (IntKind.wrap .i64 (va : Int)) 38) 0) = (litCmp .eql (litBin .shr .u64 (va : Int) 38) 0) := by
  have h : litBin .shr .u64 (va : Int) 38 = ((va / 274877906944 : Nat) : Int) := shr_div va 38 (by decide)
  rw [h, shri, wrapi, eql_eq, eql_eq]
  by_cases g : va < 274877906944
  · rw [decide_eq_true (by omega), decide_eq_true (by omega)]
  · rw [decide_eq_false (by omega), decide_eq_false (by omega)]
theorem k22 : (litCmp .eql (litBin .shr .u64 (litUna .xor .u64 (va : Int)) 38) 0) = (litCmp .eql (litBin .shr .i64 (IntKind.wrap .i64 (va : Int)) 38) (-1)) := by
  have e : litUna .xor .u64 (va : Int) = ((18446744073709551615 - va : Nat) : Int) := by
    show litBin .xor .u64 18446744073709551615 (va : Int) = _
    have h : (BitVec.ofInt IntKind.u64.bits 18446744073709551615 ^^^ BitVec.ofInt IntKind.u64.bits (va : Int)).toNat = 18446744073709551615 - va := by
      rw [ofInt_nat]
      show (BitVec.allOnes 64 ^^^ BitVec.ofNat 64 va).toNat = _
      rw [BitVec.allOnes_xor, BitVec.toNat_not, BitVec.toNat_ofNat, Nat.mod_eq_of_lt hv]
    show IntKind.u64.wrap _ = _
    rw [h, wrap_nat (by omega)]
  have h : litBin .shr .u64 ((18446744073709551615 - va : Nat) : Int) 38 = (((18446744073709551615 - va) / 274877906944 : Nat) : Int) := shr_div _ 38 (by decide)
  rw [e, h, shri, wrapi, eql_eq, eql_eq]
  by_cases g : 18446744073709551615 - va < 274877906944
  · rw [decide_eq_true (by omega), decide_eq_true (by omega)]
  · rw [decide_eq_false (by omega), decide_eq_false (by omega)]
end

set_option maxRecDepth 100000 in
set_option maxHeartbeats 4000000 in
theorem law (pg : Int) (fl : Int) (va : Int) (wpg : (Lit.int .u64 pg).wf = true) (wfl : (Lit.int .u64 fl).wf = true) (wva : (Lit.int .u64 va).wf = true) : formula pg fl va = true := by
  have hpg := inU_wf wpg
  have hfl := inU_wf wfl
  have hva := inU_wf wva
  obtain ⟨pg, rfl, npg⟩ := hpg.nat
  obtain ⟨fl, rfl, nfl⟩ := hfl.nat
  obtain ⟨va, rfl, nva⟩ := hva.nat
  have a0 : (litCmp .neq (litBin .add .u64 (litBin .add .u64 (litBin .add .u64 (litBin .shl .u64 (litBin .and .u64 (litBin .shr .u64 va 30) 511) 30) (litBin .shl .u64 (litBin .and .u64 (litBin .shr .u64 va 21) 511) 21)) (litBin .shl .u64 (litBin .and .u64 (litBin .shr .u64 va 12) 511) 12)) (litBin .rem .u64 va 4096)) (litBin .rem .u64 va 549755813888)) = false := k0 nva
  have a1 : (litCmp .neq (litBin .and .u64 (litBin .shr .u64 (litBin .or .u64 (litBin .shl .u64 (litBin .and .u64 pg 17592186044415) 10) (litBin .and .u64 fl 1023)) 10) 17592186044415) (litBin .rem .u64 pg 17592186044416)) = false := k1 npg nfl nva
  have a2 : (litCmp .neq (litBin .rem .u64 (litBin .or .u64 (litBin .shl .u64 (litBin .and .u64 pg 17592186044415) 10) (litBin .and .u64 fl 1023)) 1024) (litBin .rem .u64 fl 1024)) = false := k2 npg nfl nva
  have a3 : (litCmp .neq (litBin .rem .u64 (litBin .or .u64 (litBin .andNot .u64 (litBin .shl .u64 (litBin .and .u64 (litBin .shr .u64 (litBin .or .u64 (litBin .shl .u64 (litBin .and .u64 pg 17592186044415) 10) (litBin .and .u64 fl 1023)) 10) 17592186044415) 12) 4095) (litBin .and .u64 va 4095)) 4096) (litBin .rem .u64 va 4096)) = false := k3 npg nfl nva
  have a4 : (litCmp .neq (litBin .quo .u64 (litBin .or .u64 (litBin .andNot .u64 (litBin .shl .u64 (litBin .and .u64 (litBin .shr .u64 (litBin .or .u64 (litBin .shl .u64 (litBin .and .u64 pg 17592186044415) 10) (litBin .and .u64 fl 1023)) 10) 17592186044415) 12) 4095) (litBin .and .u64 va 4095)) 4096) (litBin .quo .u64 (litBin .mul .u64 (litBin .rem .u64 pg 17592186044416) 4096) 4096)) = false := k4 npg nfl nva
  have a5 : (litCmp .eql (litBin .and .u64 (litBin .and .u64 (litBin .shr .u64 (litBin .or .u64 (litBin .shl .u64 (litBin .and .u64 pg 17592186044415) 10) (litBin .and .u64 fl 1023)) 10) 17592186044415) 0) 0) = true := k5 npg nfl nva
  have a6 : (litCmp .eql (litBin .rem .u64 (litBin .mul .u64 (litBin .rem .u64 pg 17592186044416) 4096) 4096) 0) = true := k6 npg nfl nva
  have a7 : (litCmp .neq (litBin .rem .u64 (litBin .or .u64 (litBin .andNot .u64 (litBin .shl .u64 (litBin .and .u64 (litBin .shr .u64 (litBin .or .u64 (litBin .shl .u64 (litBin .and .u64 pg 17592186044415) 10) (litBin .and .u64 fl 1023)) 10) 17592186044415) 12) 2097151) (litBin .and .u64 va 2097151)) 2097152) (litBin .rem .u64 va 2097152)) = false := k7 npg nfl nva
  have a8 : (litCmp .neq (litBin .quo .u64 (litBin .or .u64 (litBin .andNot .u64 (litBin .shl .u64 (litBin .and .u64 (litBin .shr .u64 (litBin .or .u64 (litBin .shl .u64 (litBin .and .u64 pg 17592186044415) 10) (litBin .and .u64 fl 1023)) 10) 17592186044415) 12) 2097151) (litBin .and .u64 va 2097151)) 2097152) (litBin .quo .u64 (litBin .mul .u64 (litBin .rem .u64 pg 17592186044416) 4096) 2097152)) = false := k8 npg nfl nva
  have a9 : (litCmp .eql (litBin .and .u64 (litBin .and .u64 (litBin .shr .u64 (litBin .or .u64 (litBin .shl .u64 (litBin .and .u64 pg 17592186044415) 10) (litBin .and .u64 fl 1023)) 10) 17592186044415) 511) 0) = ((bit (litBin .and .u64 (litBin .shr .u64 (litBin .or .u64 (litBin .shl .u64 (litBin .and .u64 pg 17592186044415) 10) (litBin .and .u64 fl 1023)) 10) 17592186044415) 0 == false) && ((bit (litBin .and .u64 (litBin .shr .u64 (litBin .or .u64 (litBin .shl .u64 (litBin .and .u64 pg 17592186044415) 10) (litBin .and .u64 fl 1023)) 10) 17592186044415) 1 == false) && ((bit (litBin .and .u64 (litBin .shr .u64 (litBin .or .u64 (litBin .shl .u64 (litBin .and .u64 pg 17592186044415) 10) (litBin .and .u64 fl 1023)) 10) 17592186044415) 2 == false) && ((bit (litBin .and .u64 (litBin .shr .u64 (litBin .or .u64 (litBin .shl .u64 (litBin .and .u64 pg 17592186044415) 10) (litBin .and .u64 fl 1023)) 10) 17592186044415) 3 == false) && ((bit (litBin .and .u64 (litBin .shr .u64 (litBin .or .u64 (litBin .shl .u64 (litBin .and .u64 pg 17592186044415) 10) (litBin .and .u64 fl 1023)) 10) 17592186044415) 4 == false) && ((bit (litBin .and .u64 (litBin .shr .u64 (litBin .or .u64 (litBin .shl .u64 (litBin .and .u64 pg 17592186044415) 10) (litBin .and .u64 fl 1023)) 10) 17592186044415) 5 == false) && ((bit (litBin .and .u64 (litBin .shr .u64 (litBin .or .u64 (litBin .shl .u64 (litBin .and .u64 pg 17592186044415) 10) (litBin .and .u64 fl 1023)) 10) 17592186044415) 6 == false) && ((bit (litBin .and .u64 (litBin .shr .u64 (litBin .or .u64 (litBin .shl .u64 (litBin .and .u64 pg 17592186044415) 10) (litBin .and .u64 fl 1023)) 10) 17592186044415) 7 == false) && ((bit (litBin .and .u64 (litBin .shr .u64 (litBin .or .u64 (litBin .shl .u64 (litBin .and .u64 pg 17592186044415) 10) (litBin .and .u64 fl 1023)) 10) 17592186044415) 8 == false) && true))))))))) := (mask_eq (inU.and _ _) 511 0 [(0, false), (1, false), (2, false), (3, false), (4, false), (5, false), (6, false), (7, false), (8, false)] (by rfl)).trans (congA (congE (rfl) rfl) (congA (congE (rfl) rfl) (congA (congE (rfl) rfl) (congA (congE (rfl) rfl) (congA (congE (rfl) rfl) (congA (congE (rfl) rfl) (congA (congE (rfl) rfl) (congA (congE (rfl) rfl) (congA (congE (rfl) rfl) (rfl))))))))))
  have a10 : (litCmp .eql (litBin .rem .u64 (litBin .mul .u64 (litBin .rem .u64 pg 17592186044416) 4096) 2097152) 0) = ((bit (litBin .and .u64 (litBin .shr .u64 (litBin .or .u64 (litBin .shl .u64 (litBin .and .u64 pg 17592186044415) 10) (litBin .and .u64 fl 1023)) 10) 17592186044415) 0 == false) && ((bit (litBin .and .u64 (litBin .shr .u64 (litBin .or .u64 (litBin .shl .u64 (litBin .and .u64 pg 17592186044415) 10) (litBin .and .u64 fl 1023)) 10) 17592186044415) 1 == false) && ((bit (litBin .and .u64 (litBin .shr .u64 (litBin .or .u64 (litBin .shl .u64 (litBin .and .u64 pg 17592186044415) 10) (litBin .and .u64 fl 1023)) 10) 17592186044415) 2 == false) && ((bit (litBin .and .u64 (litBin .shr .u64 (litBin .or .u64 (litBin .shl .u64 (litBin .and .u64 pg 17592186044415) 10) (litBin .and .u64 fl 1023)) 10) 17592186044415) 3 == false) && ((bit (litBin .and .u64 (litBin .shr .u64 (litBin .or .u64 (litBin .shl .u64 (litBin .and .u64 pg 17592186044415) 10) (litBin .and .u64 fl 1023)) 10) 17592186044415) 4 == false) && ((bit (litBin .and .u64 (litBin .shr .u64 (litBin .or .u64 (litBin .shl .u64 (litBin .and .u64 pg 17592186044415) 10) (litBin .and .u64 fl 1023)) 10) 17592186044415) 5 == false) && ((bit (litBin .and .u64 (litBin .shr .u64 (litBin .or .u64 (litBin .shl .u64 (litBin .and .u64 pg 17592186044415) 10) (litBin .and .u64 fl 1023)) 10) 17592186044415) 6 == false) && ((bit (litBin .and .u64 (litBin .shr .u64 (litBin .or .u64 (litBin .shl .u64 (litBin .and .u64 pg 17592186044415) 10) (litBin .and .u64 fl 1023)) 10) 17592186044415) 7 == false) && ((bit (litBin .and .u64 (litBin .shr .u64 (litBin .or .u64 (litBin .shl .u64 (litBin .and .u64 pg 17592186044415) 10) (litBin .and .u64 fl 1023)) 10) 17592186044415) 8 == false) && true))))))))) := (k10 npg nfl nva).trans ((mask_eq (inU.and _ _) 511 0 [(0, false), (1, false), (2, false), (3, false), (4, false), (5, false), (6, false), (7, false), (8, false)] (by rfl)).trans (congA (congE (rfl) rfl) (congA (congE (rfl) rfl) (congA (congE (rfl) rfl) (congA (congE (rfl) rfl) (congA (congE (rfl) rfl) (congA (congE (rfl) rfl) (congA (congE (rfl) rfl) (congA (congE (rfl) rfl) (congA (congE (rfl) rfl) (rfl)))))))))))
  have a11 : (litCmp .neq (litBin .rem .u64 (litBin .or .u64 (litBin .andNot .u64 (litBin .shl .u64 (litBin .and .u64 (litBin .shr .u64 (litBin .or .u64 (litBin .shl .u64 (litBin .and .u64 pg 17592186044415) 10) (litBin .and .u64 fl 1023)) 10) 17592186044415) 12) 1073741823) (litBin .and .u64 va 1073741823)) 1073741824) (litBin .rem .u64 va 1073741824)) = false := k11 npg nfl nva
  have a12 : (litCmp .neq (litBin .quo .u64 (litBin .or .u64 (litBin .andNot .u64 (litBin .shl .u64 (litBin .and .u64 (litBin .shr .u64 (litBin .or .u64 (litBin .shl .u64 (litBin .and .u64 pg 17592186044415) 10) (litBin .and .u64 fl 1023)) 10) 17592186044415) 12) 1073741823) (litBin .and .u64 va 1073741823)) 1073741824) (litBin .quo .u64 (litBin .mul .u64 (litBin .rem .u64 pg 17592186044416) 4096) 1073741824)) = false := k12 npg nfl nva
  have a13 : (litCmp .eql (litBin .and .u64 (litBin .and .u64 (litBin .shr .u64 (litBin .or .u64 (litBin .shl .u64 (litBin .and .u64 pg 17592186044415) 10) (litBin .and .u64 fl 1023)) 10) 17592186044415) 262143) 0) = ((bit (litBin .and .u64 (litBin .shr .u64 (litBin .or .u64 (litBin .shl .u64 (litBin .and .u64 pg 17592186044415) 10) (litBin .and .u64 fl 1023)) 10) 17592186044415) 0 == false) && ((bit (litBin .and .u64 (litBin .shr .u64 (litBin .or .u64 (litBin .shl .u64 (litBin .and .u64 pg 17592186044415) 10) (litBin .and .u64 fl 1023)) 10) 17592186044415) 1 == false) && ((bit (litBin .and .u64 (litBin .shr .u64 (litBin .or .u64 (litBin .shl .u64 (litBin .and .u64 pg 17592186044415) 10) (litBin .and .u64 fl 1023)) 10) 17592186044415) 2 == false) && ((bit (litBin .and .u64 (litBin .shr .u64 (litBin .or .u64 (litBin .shl .u64 (litBin .and .u64 pg 17592186044415) 10) (litBin .and .u64 fl 1023)) 10) 17592186044415) 3 == false) && ((bit (litBin .and .u64 (litBin .shr .u64 (litBin .or .u64 (litBin .shl .u64 (litBin .and .u64 pg 17592186044415) 10) (litBin .and .u64 fl 1023)) 10) 17592186044415) 4 == false) && ((bit (litBin .and .u64 (litBin .shr .u64 (litBin .or .u64 (litBin .shl .u64 (litBin .and .u64 pg 17592186044415) 10) (litBin .and .u64 fl 1023)) 10) 17592186044415) 5 == false) && ((bit (litBin .and .u64 (litBin .shr .u64 (litBin .or .u64 (litBin .shl .u64 (litBin .and .u64 pg 17592186044415) 10) (litBin .and .u64 fl 1023)) 10) 17592186044415) 6 == false) && ((bit (litBin .and .u64 (litBin .shr .u64 (litBin .or .u64 (litBin .shl .u64 (litBin .and .u64 pg 17592186044415) 10) (litBin .and .u64 fl 1023)) 10) 17592186044415) 7 == false) && ((bit (litBin .and .u64 (litBin .shr .u64 (litBin .or .u64 (litBin .shl .u64 (litBin .and .u64 pg 17592186044415) 10) (litBin .and .u64 fl 1023)) 10) 17592186044415) 8 == false) && ((bit (litBin .and .u64 (litBin .shr .u64 (litBin .or .u64 (litBin .shl .u64 (litBin .and .u64 pg 17592186044415) 10) (litBin .and .u64 fl 1023)) 10) 17592186044415) 9 == false) && ((bit (litBin .and .u64 (litBin .shr .u64 (litBin .or .u64 (litBin .shl .u64 (litBin .and .u64 pg 17592186044415) 10) (litBin .and .u64 fl 1023)) 10) 17592186044415) 10 == false) && ((bit (litBin .and .u64 (litBin .shr .u64 (litBin .or .u64 (litBin .shl .u64 (litBin .and .u64 pg 17592186044415) 10) (litBin .and .u64 fl 1023)) 10) 17592186044415) 11 == false) && ((bit (litBin .and .u64 (litBin .shr .u64 (litBin .or .u64 (litBin .shl .u64 (litBin .and .u64 pg 17592186044415) 10) (litBin .and .u64 fl 1023)) 10) 17592186044415) 12 == false) && ((bit (litBin .and .u64 (litBin .shr .u64 (litBin .or .u64 (litBin .shl .u64 (litBin .and .u64 pg 17592186044415) 10) (litBin .and .u64 fl 1023)) 10) 17592186044415) 13 == false) && ((bit (litBin .and .u64 (litBin .shr .u64 (litBin .or .u64 (litBin .shl .u64 (litBin .and .u64 pg 17592186044415) 10) (litBin .and .u64 fl 1023)) 10) 17592186044415) 14 == false) && ((bit (litBin .and .u64 (litBin .shr .u64 (litBin .or .u64 (litBin .shl .u64 (litBin .and .u64 pg 17592186044415) 10) (litBin .and .u64 fl 1023)) 10) 17592186044415) 15 == false) && ((bit (litBin .and .u64 (litBin .shr .u64 (litBin .or .u64 (litBin .shl .u64 (litBin .and .u64 pg 17592186044415) 10) (litBin .and .u64 fl 1023)) 10) 17592186044415) 16 == false) && ((bit (litBin .and .u64 (litBin .shr .u64 (litBin .or .u64 (litBin .shl .u64 (litBin .and .u64 pg 17592186044415) 10) (litBin .and .u64 fl 1023)) 10) 17592186044415) 17 == false) && true)))))))))))))))))) := (mask_eq (inU.and _ _) 262143 0 [(0, false), (1, false), (2, false), (3, false), (4, false), (5, false), (6, false), (7, false), (8, false), (9, false), (10, false), (11, false), (12, false), (13, false), (14, false), (15, false), (16, false), (17, false)] (by rfl)).trans (congA (congE (rfl) rfl) (congA (congE (rfl) rfl) (congA (congE (rfl) rfl) (congA (congE (rfl) rfl) (congA (congE (rfl) rfl) (congA (congE (rfl) rfl) (congA (congE (rfl) rfl) (congA (congE (rfl) rfl) (congA (congE (rfl) rfl) (congA (congE (rfl) rfl) (congA (congE (rfl) rfl) (congA (congE (rfl) rfl) (congA (congE (rfl) rfl) (congA (congE (rfl) rfl) (congA (congE (rfl) rfl) (congA (congE (rfl) rfl) (congA (congE (rfl) rfl) (congA (congE (rfl) rfl) (rfl)))))))))))))))))))
  have a14 : (litCmp .eql (litBin .rem .u64 (litBin .mul .u64 (litBin .rem .u64 pg 17592186044416) 4096) 1073741824) 0) = ((bit (litBin .and .u64 (litBin .shr .u64 (litBin .or .u64 (litBin .shl .u64 (litBin .and .u64 pg 17592186044415) 10) (litBin .and .u64 fl 1023)) 10) 17592186044415) 0 == false) && ((bit (litBin .and .u64 (litBin .shr .u64 (litBin .or .u64 (litBin .shl .u64 (litBin .and .u64 pg 17592186044415) 10) (litBin .and .u64 fl 1023)) 10) 17592186044415) 1 == false) && ((bit (litBin .and .u64 (litBin .shr .u64 (litBin .or .u64 (litBin .shl .u64 (litBin .and .u64 pg 17592186044415) 10) (litBin .and .u64 fl 1023)) 10) 17592186044415) 2 == false) && ((bit (litBin .and .u64 (litBin .shr .u64 (litBin .or .u64 (litBin .shl .u64 (litBin .and .u64 pg 17592186044415) 10) (litBin .and .u64 fl 1023)) 10) 17592186044415) 3 == false) && ((bit (litBin .and .u64 (litBin .shr .u64 (litBin .or .u64 (litBin .shl .u64 (litBin .and .u64 pg 17592186044415) 10) (litBin .and .u64 fl 1023)) 10) 17592186044415) 4 == false) && ((bit (litBin .and .u64 (litBin .shr .u64 (litBin .or .u64 (litBin .shl .u64 (litBin .and .u64 pg 17592186044415) 10) (litBin .and .u64 fl 1023)) 10) 17592186044415) 5 == false) && ((bit (litBin .and .u64 (litBin .shr .u64 (litBin .or .u64 (litBin .shl .u64 (litBin .and .u64 pg 17592186044415) 10) (litBin .and .u64 fl 1023)) 10) 17592186044415) 6 == false) && ((bit (litBin .and .u64 (litBin .shr .u64 (litBin .or .u64 (litBin .shl .u64 (litBin .and .u64 pg 17592186044415) 10) (litBin .and .u64 fl 1023)) 10) 17592186044415) 7 == false) && ((bit (litBin .and .u64 (litBin .shr .u64 (litBin .or .u64 (litBin .shl .u64 (litBin .and .u64 pg 17592186044415) 10) (litBin .and .u64 fl 1023)) 10) 17592186044415) 8 == false) && ((bit (litBin .and .u64 (litBin .shr .u64 (litBin .or .u64 (litBin .shl .u64 (litBin .and .u64 pg 17592186044415) 10) (litBin .and .u64 fl 1023)) 10) 17592186044415) 9 == false) && ((bit (litBin .and .u64 (litBin .shr .u64 (litBin .or .u64 (litBin .shl .u64 (litBin .and .u64 pg 17592186044415) 10) (litBin .and .u64 fl 1023)) 10) 17592186044415) 10 == false) && ((bit (litBin .and .u64 (litBin .shr .u64 (litBin .or .u64 (litBin .shl .u64 (litBin .and .u64 pg 17592186044415) 10) (litBin .and .u64 fl 1023)) 10) 17592186044415) 11 == false) && ((bit (litBin .and .u64 (litBin .shr .u64 (litBin .or .u64 (litBin .shl .u64 (litBin .and .u64 pg 17592186044415) 10) (litBin .and .u64 fl 1023)) 10) 17592186044415) 12 == false) && ((bit (litBin .and .u64 (litBin .shr .u64 (litBin .or .u64 (litBin .shl .u64 (litBin .and .u64 pg 17592186044415) 10) (litBin .and .u64 fl 1023)) 10) 17592186044415) 13 == false) && ((bit (litBin .and .u64 (litBin .shr .u64 (litBin .or .u64 (litBin .shl .u64 (litBin .and .u64 pg 17592186044415) 10) (litBin .and .u64 fl 1023)) 10) 17592186044415) 14 == false) && ((bit (litBin .and .u64 (litBin .shr .u64 (litBin .or .u64 (litBin .shl .u64 (litBin .and .u64 pg 17592186044415) 10) (litBin .and .u64 fl 1023)) 10) 17592186044415) 15 == false) && ((bit (litBin .and .u64 (litBin .shr .u64 (litBin .or .u64 (litBin .shl .u64 (litBin .and .u64 pg 17592186044415) 10) (litBin .and .u64 fl 1023)) 10) 17592186044415) 16 == false) && ((bit (litBin .and .u64 (litBin .shr .u64 (litBin .or .u64 (litBin .shl .u64 (litBin .and .u64 pg 17592186044415) 10) (litBin .and .u64 fl 1023)) 10) 17592186044415) 17 == false) && true)))))))))))))))))) := (k14 npg nfl nva).trans ((mask_eq (inU.and _ _) 262143 0 [(0, false), (1, false), (2, false), (3, false), (4, false), (5, false), (6, false), (7, false), (8, false), (9, false), (10, false), (11, false), (12, false), (13, false), (14, false), (15, false), (16, false), (17, false)] (by rfl)).trans (congA (congE (rfl) rfl) (congA (congE (rfl) rfl) (congA (congE (rfl) rfl) (congA (congE (rfl) rfl) (congA (congE (rfl) rfl) (congA (congE (rfl) rfl) (congA (congE (rfl) rfl) (congA (congE (rfl) rfl) (congA (congE (rfl) rfl) (congA (congE (rfl) rfl) (congA (congE (rfl) rfl) (congA (congE (rfl) rfl) (congA (congE (rfl) rfl) (congA (congE (rfl) rfl) (congA (congE (rfl) rfl) (congA (congE (rfl) rfl) (congA (congE (rfl) rfl) (congA (congE (rfl) rfl) (rfl))))))))))))))))))))
  have a15 : (litCmp .eql (litBin .shr .i64 (IntKind.wrap .i64 (litBin .rem .u64 va 274877906944)) 38) 0) = true := k15 nva
  have a16 : (litCmp .eql (litBin .shr .i64 (IntKind.wrap .i64 (litBin .rem .u64 va 274877906944)) 38) (-1)) = litCmp .eql (litBin .shr .i64 (IntKind.wrap .i64 (litBin .rem .u64 va 274877906944)) 38) (-1) := rfl
  have a17 : (litCmp .eql (litBin .shr .i64 (IntKind.wrap .i64 (litBin .or .u64 va 18446743798831644672)) 38) 0) = false := (k18 nva).1
  have a18 : (litCmp .eql (litBin .shr .i64 (IntKind.wrap .i64 (litBin .or .u64 va 18446743798831644672)) 38) (-1)) = true := (k18 nva).2
  have a19 : (litCmp .eql (litBin .shr .u64 va 38) 0) = litCmp .eql (litBin .shr .u64 va 38) 0 := rfl
  have a20 : (litCmp .eql (litBin .shr .i64 (IntKind.wrap .i64 va) 38) 0) = litCmp .eql (litBin .shr .u64 va 38) 0 := (k20 nva).trans (rfl)
  have a21 : (litCmp .eql (litBin .shr .i64 (IntKind.wrap .i64 va) 38) (-1)) = litCmp .eql (litBin .shr .i64 (IntKind.wrap .i64 va) 38) (-1) := rfl
  have a22 : (litCmp .eql (litBin .shr .u64 (litUna .xor .u64 va) 38) 0) = litCmp .eql (litBin .shr .i64 (IntKind.wrap .i64 va) 38) (-1) := (k22 nva).trans (rfl)
  have e : formula pg fl va = bits.den [bit (litBin .and .u64 (litBin .shr .u64 (litBin .or .u64 (litBin .shl .u64 (litBin .and .u64 pg 17592186044415) 10) (litBin .and .u64 fl 1023)) 10) 17592186044415) 8, bit (litBin .and .u64 (litBin .shr .u64 (litBin .or .u64 (litBin .shl .u64 (litBin .and .u64 pg 17592186044415) 10) (litBin .and .u64 fl 1023)) 10) 17592186044415) 7, bit (litBin .and .u64 (litBin .shr .u64 (litBin .or .u64 (litBin .shl .u64 (litBin .and .u64 pg 17592186044415) 10) (litBin .and .u64 fl 1023)) 10) 17592186044415) 6, bit (litBin .and .u64 (litBin .shr .u64 (litBin .or .u64 (litBin .shl .u64 (litBin .and .u64 pg 17592186044415) 10) (litBin .and .u64 fl 1023)) 10) 17592186044415) 5, bit (litBin .and .u64 (litBin .shr .u64 (litBin .or .u64 (litBin .shl .u64 (litBin .and .u64 pg 17592186044415) 10) (litBin .and .u64 fl 1023)) 10) 17592186044415) 4, bit (litBin .and .u64 (litBin .shr .u64 (litBin .or .u64 (litBin .shl .u64 (litBin .and .u64 pg 17592186044415) 10) (litBin .and .u64 fl 1023)) 10) 17592186044415) 3, bit (litBin .and .u64 (litBin .shr .u64 (litBin .or .u64 (litBin .shl .u64 (litBin .and .u64 pg 17592186044415) 10) (litBin .and .u64 fl 1023)) 10) 17592186044415) 2, bit (litBin .and .u64 (litBin .shr .u64 (litBin .or .u64 (litBin .shl .u64 (litBin .and .u64 pg 17592186044415) 10) (litBin .and .u64 fl 1023)) 10) 17592186044415) 1, bit (litBin .and .u64 (litBin .shr .u64 (litBin .or .u64 (litBin .shl .u64 (litBin .and .u64 pg 17592186044415) 10) (litBin .and .u64 fl 1023)) 10) 17592186044415) 0, bit (litBin .and .u64 (litBin .shr .u64 (litBin .or .u64 (litBin .shl .u64 (litBin .and .u64 pg 17592186044415) 10) (litBin .and .u64 fl 1023)) 10) 17592186044415) 17, bit (litBin .and .u64 (litBin .shr .u64 (litBin .or .u64 (litBin .shl .u64 (litBin .and .u64 pg 17592186044415) 10) (litBin .and .u64 fl 1023)) 10) 17592186044415) 16, bit (litBin .and .u64 (litBin .shr .u64 (litBin .or .u64 (litBin .shl .u64 (litBin .and .u64 pg 17592186044415) 10) (litBin .and .u64 fl 1023)) 10) 17592186044415) 15, bit (litBin .and .u64 (litBin .shr .u64 (litBin .or .u64 (litBin .shl .u64 (litBin .and .u64 pg 17592186044415) 10) (litBin .and .u64 fl 1023)) 10) 17592186044415) 14, bit (litBin .and .u64 (litBin .shr .u64 (litBin .or .u64 (litBin .shl .u64 (litBin .and .u64 pg 17592186044415) 10) (litBin .and .u64 fl 1023)) 10) 17592186044415) 13, bit (litBin .and .u64 (litBin .shr .u64 (litBin .or .u64 (litBin .shl .u64 (litBin .and .u64 pg 17592186044415) 10) (litBin .and .u64 fl 1023)) 10) 17592186044415) 12, bit (litBin .and .u64 (litBin .shr .u64 (litBin .or .u64 (litBin .shl .u64 (litBin .and .u64 pg 17592186044415) 10) (litBin .and .u64 fl 1023)) 10) 17592186044415) 11, bit (litBin .and .u64 (litBin .shr .u64 (litBin .or .u64 (litBin .shl .u64 (litBin .and .u64 pg 17592186044415) 10) (litBin .and .u64 fl 1023)) 10) 17592186044415) 10, bit (litBin .and .u64 (litBin .shr .u64 (litBin .or .u64 (litBin .shl .u64 (litBin .and .u64 pg 17592186044415) 10) (litBin .and .u64 fl 1023)) 10) 17592186044415) 9, litCmp .eql (litBin .shr .i64 (IntKind.wrap .i64 (litBin .rem .u64 va 274877906944)) 38) (-1), litCmp .eql (litBin .shr .u64 va 38) 0, litCmp .eql (litBin .shr .i64 (IntKind.wrap .i64 va) 38) (-1)] := by
    refine (congr (congr (congr (congr (congr (congr (congr (congr (congr (congr (congr (congr (congr (congr (congr (congr (congr (congr (congr (congr (congr (congr (congrArg shape a0) a1) a2) a3) a4) a5) a6) a7) a8) a9) a10) a11) a12) a13) a14) a15) a16) a17) a18) a19) a20) a21) a22).trans ?_
    kernel_rfl
  rw [e]
  exact BE.taut2_den _ _ _ true_bits

set_option maxRecDepth 100000 in
set_option maxHeartbeats 4000000 in
theorem run : ∀ vs, ArgsOk [.one (.int .u64), .one (.int .u64), .one (.int .u64)] vs → ∀ w, Calls Try.prog 15 vs.toArray w fun e w' => e = .returned (.bool true) ∧ Below w.heap.size w w' := by
  intro vs h w
  obtain ⟨_, _, rfl, ⟨pg, rfl, wpg⟩, _, _, rfl, ⟨fl, rfl, wfl⟩, _, _, rfl, ⟨va, rfl, wva⟩, rfl⟩ := h
  have h1 := evals pg fl va
  have h2 := (rfl : List.map absV [.int .u64 pg, .int .u64 fl, .int .u64 va] = [.int .u64 (.sym pg), .int .u64 (.sym fl), .int .u64 (.sym va)])
  have h3 := law pg fl va wpg wfl wva
  have h4 := law_true2 cx_ok h2 h1 h3 w
  exact h4

set_option maxRecDepth 100000 in
theorem lifted (os : Os) (started : os.Started) (H : Type) (enc : TypeId × Value → H) :
    ReturnsInHanded {} Try.checked os 15 .any (Rows.ptePartsSpec.pre6 enc Try.prog Try.f15 Rows.ptePartsRow.domain false) (Rows.ptePartsSpec.post enc Try.prog Try.f15 false true false false) := by
  refine returnsInHanded_of_change (C := Try.checked) own started (by kernel_rfl) Try.func15
    (ChangeSpec.witness6 (enc := enc) (C := Try.checked) false ⟨#[], #[.int .u64 0, .int .u64 0, .int .u64 0], []⟩ 8 (by kernel_rfl) (by kernel_rfl) (by kernel_rfl) (by kernel_rfl)) ?_
  intro W base args ds gs before hval hW _ _
  exact lifted_plain (P := Try.prog) (f := 15) (fn := Try.f15) (s := Rows.ptePartsSpec) (tb := 4) rfl
    (fun ds h => by
      match ds, h with
      | [d1, d2, d3], _ => rfl)
    (by kernel_rfl) rfl (by kernel_rfl) run W base args ds gs before hval hW

theorem over : Rows.ptePartsRow.holds Try.pinned (OpenSpec.ofChange Rows.ptePartsSpec) :=
  OpenClaim.holds_of_wide 15 Try.f15 rfl rfl rfl rfl rfl rfl rfl ⟨rfl, rfl, rfl, rfl, rfl⟩ rfl rfl rfl rfl rfl (by kernel_rfl) Try.func15 (by kernel_rfl)
    (of_decide_eq_true (by kernel_rfl)) (by unfold Func.isWrapper; first | (rw [if_pos (by decide +kernel)]; kernel_rfl) | (rw [if_neg (by decide +kernel)]; exact ⟨rfl, rfl⟩))
    (fun os started H enc _ => lifted os started H enc)

/-- The statement. -/
theorem proved : Rows.PtePartsSaid :=
  over
#print axioms proved
end Go.Proofs.Ytbjlkapfpcmjfaa.PteParts
