/- What the evaluator's words are in whole numbers. Conditions: none. -/
import Derived.Test.YtngcbpcfgolifaaEvLift
namespace Go.Proofs.Ytngcbpcfgolifaa.Ev
set_option linter.unusedVariables false
set_option linter.unusedSimpArgs false
theorem lss_eq (x y : Int) : litCmp .lss x y = decide (x < y) := rfl
theorem leq_eq (x y : Int) : litCmp .leq x y = decide (x ≤ y) := rfl
theorem gtr_eq (x y : Int) : litCmp .gtr x y = decide (y < x) := rfl
theorem geq_eq (x y : Int) : litCmp .geq x y = decide (y ≤ x) := rfl
theorem eql_eq (x y : Int) : litCmp .eql x y = decide (x = y) := rfl
theorem neq_eq (x y : Int) : litCmp .neq x y = !decide (x = y) := rfl
theorem wrap64 (x : Int) : IntKind.u64.wrap x = x % 18446744073709551616 := by simp [IntKind.wrap, IntKind.signed, IntKind.bits]
theorem add_eq (x y : Int) : litBin .add .u64 x y = (x + y) % 18446744073709551616 := wrap64 _
theorem sub_eq (x y : Int) : litBin .sub .u64 x y = (x - y) % 18446744073709551616 := wrap64 _
theorem wf64 {a : Int} (h : (Lit.int .u64 a).wf = true) : 0 ≤ a ∧ a < 18446744073709551616 := by
  simp [Lit.wf, IntKind.min, IntKind.max, IntKind.signed, IntKind.bits] at h
  omega
theorem wf64i {a : Int} (h : (Lit.int .i64 a).wf = true) : -9223372036854775808 ≤ a ∧ a < 9223372036854775808 := by
  simp [Lit.wf, IntKind.min, IntKind.max, IntKind.signed, IntKind.bits] at h
  omega
end Go.Proofs.Ytngcbpcfgolifaa.Ev
