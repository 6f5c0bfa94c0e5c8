/- Numbers of 64 and of 32 bits, as sums and rests. Conditions: none. -/
import Derived.Test.YtgljicadcegilaaCx
import Derived.Test.YtgljicadcegilaaEvTaut2
namespace Go.Proofs.Ytgljicadcegilaa.Ev
set_option linter.unusedVariables false
set_option linter.unusedSimpArgs false

theorem wrapi (x : Int) : IntKind.i64.wrap x = (x + 9223372036854775808) % 18446744073709551616 - 9223372036854775808 := by
  simp [IntKind.wrap, IntKind.signed, IntKind.bits]
  try omega
theorem wrapi32 (x : Int) : IntKind.i32.wrap x = (x + 2147483648) % 4294967296 - 2147483648 := by
  simp [IntKind.wrap, IntKind.signed, IntKind.bits]
  try omega
theorem wrap32 (x : Int) : IntKind.u32.wrap x = x % 4294967296 := by simp [IntKind.wrap, IntKind.signed, IntKind.bits]
theorem wrap8 (x : Int) : IntKind.u8.wrap x = x % 256 := by simp [IntKind.wrap, IntKind.signed, IntKind.bits]
theorem neq_self (x : Int) : litCmp .neq x x = false := by rw [neq_eq, decide_eq_true rfl]; rfl
theorem eql_self (x : Int) : litCmp .eql x x = true := by rw [eql_eq]; exact decide_eq_true rfl
theorem eql_of {x y : Int} (h : x = y) : litCmp .eql x y = true := decide_eq_true h
theorem neq_of {x y : Int} (h : x = y) : litCmp .neq x y = false := by rw [neq_eq, decide_eq_true h]; rfl
theorem mul_eq (x y : Int) : litBin .mul .u64 x y = (x * y) % 18446744073709551616 := Ev.wrap64 _
theorem neg_eq (x : Int) : litUna .neg .u64 x = (0 - x) % 18446744073709551616 := Ev.wrap64 _
theorem shl32 (x : Int) : litBin .shl .u64 x 32 = (x * 4294967296) % 18446744073709551616 := Ev.wrap64 _
theorem shr32i (x : Int) : litBin .shr .i64 x 32 = x / 4294967296 := by
  show Int.fdiv x (2 ^ (min ((32 : Int).toNat) 64)) = _
  rw [Int.fdiv_eq_ediv_of_nonneg _ (by decide)]
  rfl
theorem shr63 (x : Int) : litBin .shr .u64 x 63 = x / 9223372036854775808 := by
  show Int.fdiv x (2 ^ (min ((63 : Int).toNat) 64)) = _
  rw [Int.fdiv_eq_ediv_of_nonneg _ (by decide)]
  rfl
theorem shr63i (x : Int) : litBin .shr .i64 x 63 = x / 9223372036854775808 := by
  show Int.fdiv x (2 ^ (min ((63 : Int).toNat) 64)) = _
  rw [Int.fdiv_eq_ediv_of_nonneg _ (by decide)]
  rfl
/-- A sign of 32 bits is extended. -/
def sx (x : Int) : Int := ((x + 2147483648) % 4294967296 - 2147483648) % 18446744073709551616
theorem sx32 (b : Int) : IntKind.wrap .u64 (litBin .shr .i64 (IntKind.wrap .i64 (litBin .shl .u64 b 32)) 32) = sx b := by
  rw [Ev.wrap64, shr32i, wrapi, shl32]
  unfold sx
  omega
theorem sx_mod (x : Int) : sx x % 4294967296 = x % 4294967296 := by unfold sx; omega
theorem sx_congr {x y : Int} (h : x % 4294967296 = y % 4294967296) : sx x = sx y := by unfold sx; omega
theorem inU_sx (x : Int) : inU (sx x) := by unfold sx inU; omega
theorem low32 (x : Int) : IntKind.wrap .u64 (IntKind.wrap .u32 x) = x % 4294967296 := by rw [Ev.wrap64, wrap32]; omega
theorem rem32 {x : Int} (h : inU x) : litBin .rem .u64 x 4294967296 = x % 4294967296 := by
  unfold inU at h
  show x.tmod 4294967296 = _
  rw [Int.tmod_eq_emod_of_nonneg h.1]
theorem and_all {x : Int} (h : inU x) : litBin .and .u64 x 18446744073709551615 = x := by
  obtain ⟨n, rfl, hn⟩ := h.nat
  have e : litBin .and .u64 (n : Int) 18446744073709551615 = ((n &&& 18446744073709551615 : Nat) : Int) := and_nat hn (y := 18446744073709551615) (by decide)
  have e2 : n &&& 18446744073709551615 = n % 18446744073709551616 := Nat.and_two_pow_sub_one_eq_mod n 64
  rw [e, e2, Nat.mod_eq_of_lt hn]
theorem xor_nat {x y : Nat} (hx : x < 18446744073709551616) (hy : y < 18446744073709551616) : litBin .xor .u64 (x : Int) (y : Int) = ((x ^^^ y : Nat) : Int) := by
  show IntKind.u64.wrap ((BitVec.ofInt IntKind.u64.bits (x : Int) ^^^ BitVec.ofInt IntKind.u64.bits (y : Int)).toNat : Int) = _
  rw [ofInt_nat, ofInt_nat]
  have e : (BitVec.ofNat 64 x ^^^ BitVec.ofNat 64 y).toNat = x ^^^ y := by
    rw [BitVec.toNat_xor, BitVec.toNat_ofNat, BitVec.toNat_ofNat, Nat.mod_eq_of_lt (by simpa using hx), Nat.mod_eq_of_lt (by simpa using hy)]
  refine (congrArg (fun n : Nat => IntKind.u64.wrap (n : Int)) e).trans ?_
  exact wrap_nat (Nat.xor_lt_two_pow (n := 64) hx hy)
theorem xor_back {x y : Int} (hx : inU x) (hy : inU y) : litBin .xor .u64 (litBin .xor .u64 x y) y = x := by
  obtain ⟨a, rfl, ha⟩ := hx.nat
  obtain ⟨b, rfl, hb⟩ := hy.nat
  rw [xor_nat ha hb, xor_nat (Nat.xor_lt_two_pow (n := 64) ha hb) hb, Nat.xor_assoc, Nat.xor_self, Nat.xor_zero]
theorem uns {a : Int} (ha : inU a) : IntKind.wrap .u64 (IntKind.wrap .i64 a) = a := by
  unfold inU at ha
  rw [Ev.wrap64, wrapi]
  omega
theorem wf8 {h : Int} (wh : (Lit.int .u8 h).wf = true) : 0 ≤ h ∧ h < 256 := by
  have h2 : 0 ≤ h ∧ h ≤ 255 := by simpa [Lit.wf, IntKind.min, IntKind.max, IntKind.signed, IntKind.bits] using wh
  omega
theorem wf32 {h : Int} (wh : (Lit.int .u32 h).wf = true) : 0 ≤ h ∧ h < 4294967296 := by
  have h2 : 0 ≤ h ∧ h ≤ 4294967295 := by simpa [Lit.wf, IntKind.min, IntKind.max, IntKind.signed, IntKind.bits] using wh
  omega
end Go.Proofs.Ytgljicadcegilaa.Ev
