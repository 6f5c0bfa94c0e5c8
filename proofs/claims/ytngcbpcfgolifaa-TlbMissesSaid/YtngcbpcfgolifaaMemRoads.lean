/- Roads of Get and Put. Conditions: none. -/
import Derived.Test.YtngcbpcfgolifaaMemHas
namespace Go.Proofs.Ytngcbpcfgolifaa.Ev
open Go.RowKit
set_option linter.unusedVariables false
set_option linter.unusedSimpArgs false

set_option maxRecDepth 100000 in
theorem getc1 (L C N : Nat) (F : Nat → Int) (x : Int) : seeM (hsM 156 L C N F) (call Try.prog cxm2 380 36 [.ptr 0 (.lit 0), .int .u64 (.sym x), .int .i64 (.lit 1)] (hsM 156 L C N F)) [true] =
    some ([askP L C x 1 && cond (okS L x 1) (bndC N (off x) 0 0) true], .val (.tuple [.int .u64 (.sym (cond (okS L x 1) (orC F (off x) 1) 0)), .bool (.sym (okS L x 1))]), hsM 156 L C N F) := by kernel_rfl
set_option maxRecDepth 100000 in
theorem getr1 (L C N : Nat) (F : Nat → Int) (x : Int) : seeM (hsM 63 L C N F) (call Try.prog cxm2 380 39 [.ptr 0 (.lit 0), .int .u64 (.sym x), .int .i64 (.lit 1)] (hsM 63 L C N F)) [true] =
    some ([askP L C x 1 && cond (!(okS L x 1)) true (bndD L N x 0)], .val (.tuple [.int .u64 (.sym (cond (!(okS L x 1)) 0 (refC F x 1 0))), .bool (.sym (!(!(okS L x 1))))]), hsM 63 L C N F) := by kernel_rfl
set_option maxRecDepth 100000 in
theorem putc1 (L C N : Nat) (F : Nat → Int) (x : Int) (v : Int) : seeM (hsM 156 L C N F) (call Try.prog cxm2 380 35 [.ptr 0 (.lit 0), .int .u64 (.sym x), .int .i64 (.lit 1), .int .u64 (.sym v)] (hsM 156 L C N F)) [true, true, true] =
    some ([askP L C x 1, okS L x 1, bndC N (off x) 0 0], .val (.bool (.lit true)), hsM 156 L C N (putC F (off x) v 1)) := by kernel_rfl
set_option maxRecDepth 100000 in
theorem putcn1 (L C N : Nat) (F : Nat → Int) (x : Int) (v : Int) : seeM (hsM 156 L C N F) (call Try.prog cxm2 380 35 [.ptr 0 (.lit 0), .int .u64 (.sym x), .int .i64 (.lit 1), .int .u64 (.sym v)] (hsM 156 L C N F)) [true, false] =
    some ([askP L C x 1, okS L x 1], .val (.bool (.lit false)), hsM 156 L C N F) := by kernel_rfl
set_option maxRecDepth 100000 in
theorem putr1 (L C N : Nat) (F : Nat → Int) (x : Int) (v : Int) : seeM (hsM 63 L C N F) (call Try.prog cxm2 380 40 [.ptr 0 (.lit 0), .int .u64 (.sym x), .int .i64 (.lit 1), .int .u64 (.sym v)] (hsM 63 L C N F)) [true, false, true] =
    some ([askP L C x 1, !(okS L x 1), bndR L N x 0 0], .val (.bool (.lit true)), hsM 63 L C N (putR F x 1 0 v)) := by kernel_rfl
set_option maxRecDepth 100000 in
theorem putrn1 (L C N : Nat) (F : Nat → Int) (x : Int) (v : Int) : seeM (hsM 63 L C N F) (call Try.prog cxm2 380 40 [.ptr 0 (.lit 0), .int .u64 (.sym x), .int .i64 (.lit 1), .int .u64 (.sym v)] (hsM 63 L C N F)) [true, true] =
    some ([askP L C x 1, !(okS L x 1)], .val (.bool (.lit false)), hsM 63 L C N F) := by kernel_rfl

set_option maxRecDepth 100000 in
theorem getc2 (L C N : Nat) (F : Nat → Int) (x : Int) : seeM (hsM 156 L C N F) (call Try.prog cxm2 380 36 [.ptr 0 (.lit 0), .int .u64 (.sym x), .int .i64 (.lit 2)] (hsM 156 L C N F)) [true] =
    some ([askP L C x 2 && cond (okS L x 2) (bndC N (off x) 1 0) true], .val (.tuple [.int .u64 (.sym (cond (okS L x 2) (orC F (off x) 2) 0)), .bool (.sym (okS L x 2))]), hsM 156 L C N F) := by kernel_rfl
set_option maxRecDepth 100000 in
theorem getr2 (L C N : Nat) (F : Nat → Int) (x : Int) : seeM (hsM 63 L C N F) (call Try.prog cxm2 380 39 [.ptr 0 (.lit 0), .int .u64 (.sym x), .int .i64 (.lit 2)] (hsM 63 L C N F)) [true] =
    some ([askP L C x 2 && cond (!(okS L x 2)) true (bndD L N x 1)], .val (.tuple [.int .u64 (.sym (cond (!(okS L x 2)) 0 (refC F x 2 0))), .bool (.sym (!(!(okS L x 2))))]), hsM 63 L C N F) := by kernel_rfl
set_option maxRecDepth 100000 in
theorem putc2 (L C N : Nat) (F : Nat → Int) (x : Int) (v : Int) : seeM (hsM 156 L C N F) (call Try.prog cxm2 380 35 [.ptr 0 (.lit 0), .int .u64 (.sym x), .int .i64 (.lit 2), .int .u64 (.sym v)] (hsM 156 L C N F)) [true, true, true] =
    some ([askP L C x 2, okS L x 2, bndC N (off x) 1 0], .val (.bool (.lit true)), hsM 156 L C N (putC F (off x) v 2)) := by kernel_rfl
set_option maxRecDepth 100000 in
theorem putcn2 (L C N : Nat) (F : Nat → Int) (x : Int) (v : Int) : seeM (hsM 156 L C N F) (call Try.prog cxm2 380 35 [.ptr 0 (.lit 0), .int .u64 (.sym x), .int .i64 (.lit 2), .int .u64 (.sym v)] (hsM 156 L C N F)) [true, false] =
    some ([askP L C x 2, okS L x 2], .val (.bool (.lit false)), hsM 156 L C N F) := by kernel_rfl
set_option maxRecDepth 100000 in
theorem putr2 (L C N : Nat) (F : Nat → Int) (x : Int) (v : Int) : seeM (hsM 63 L C N F) (call Try.prog cxm2 380 40 [.ptr 0 (.lit 0), .int .u64 (.sym x), .int .i64 (.lit 2), .int .u64 (.sym v)] (hsM 63 L C N F)) [true, false, true] =
    some ([askP L C x 2, !(okS L x 2), bndR L N x 1 0], .val (.bool (.lit true)), hsM 63 L C N (putR F x 2 0 v)) := by kernel_rfl
set_option maxRecDepth 100000 in
theorem putrn2 (L C N : Nat) (F : Nat → Int) (x : Int) (v : Int) : seeM (hsM 63 L C N F) (call Try.prog cxm2 380 40 [.ptr 0 (.lit 0), .int .u64 (.sym x), .int .i64 (.lit 2), .int .u64 (.sym v)] (hsM 63 L C N F)) [true, true] =
    some ([askP L C x 2, !(okS L x 2)], .val (.bool (.lit false)), hsM 63 L C N F) := by kernel_rfl

set_option maxRecDepth 100000 in
theorem getc4 (L C N : Nat) (F : Nat → Int) (x : Int) : seeM (hsM 156 L C N F) (call Try.prog cxm2 380 36 [.ptr 0 (.lit 0), .int .u64 (.sym x), .int .i64 (.lit 4)] (hsM 156 L C N F)) [true] =
    some ([askP L C x 4 && cond (okS L x 4) (bndC N (off x) 3 0) true], .val (.tuple [.int .u64 (.sym (cond (okS L x 4) (orC F (off x) 4) 0)), .bool (.sym (okS L x 4))]), hsM 156 L C N F) := by kernel_rfl
set_option maxRecDepth 100000 in
theorem getr4 (L C N : Nat) (F : Nat → Int) (x : Int) : seeM (hsM 63 L C N F) (call Try.prog cxm2 380 39 [.ptr 0 (.lit 0), .int .u64 (.sym x), .int .i64 (.lit 4)] (hsM 63 L C N F)) [true] =
    some ([askP L C x 4 && cond (!(okS L x 4)) true (bndD L N x 3)], .val (.tuple [.int .u64 (.sym (cond (!(okS L x 4)) 0 (refC F x 4 0))), .bool (.sym (!(!(okS L x 4))))]), hsM 63 L C N F) := by kernel_rfl
set_option maxRecDepth 100000 in
theorem putc4 (L C N : Nat) (F : Nat → Int) (x : Int) (v : Int) : seeM (hsM 156 L C N F) (call Try.prog cxm2 380 35 [.ptr 0 (.lit 0), .int .u64 (.sym x), .int .i64 (.lit 4), .int .u64 (.sym v)] (hsM 156 L C N F)) [true, true, true] =
    some ([askP L C x 4, okS L x 4, bndC N (off x) 3 0], .val (.bool (.lit true)), hsM 156 L C N (putC F (off x) v 4)) := by kernel_rfl
set_option maxRecDepth 100000 in
theorem putcn4 (L C N : Nat) (F : Nat → Int) (x : Int) (v : Int) : seeM (hsM 156 L C N F) (call Try.prog cxm2 380 35 [.ptr 0 (.lit 0), .int .u64 (.sym x), .int .i64 (.lit 4), .int .u64 (.sym v)] (hsM 156 L C N F)) [true, false] =
    some ([askP L C x 4, okS L x 4], .val (.bool (.lit false)), hsM 156 L C N F) := by kernel_rfl
set_option maxRecDepth 100000 in
theorem putr4 (L C N : Nat) (F : Nat → Int) (x : Int) (v : Int) : seeM (hsM 63 L C N F) (call Try.prog cxm2 380 40 [.ptr 0 (.lit 0), .int .u64 (.sym x), .int .i64 (.lit 4), .int .u64 (.sym v)] (hsM 63 L C N F)) [true, false, true] =
    some ([askP L C x 4, !(okS L x 4), bndR L N x 3 0], .val (.bool (.lit true)), hsM 63 L C N (putR F x 4 0 v)) := by kernel_rfl
set_option maxRecDepth 100000 in
theorem putrn4 (L C N : Nat) (F : Nat → Int) (x : Int) (v : Int) : seeM (hsM 63 L C N F) (call Try.prog cxm2 380 40 [.ptr 0 (.lit 0), .int .u64 (.sym x), .int .i64 (.lit 4), .int .u64 (.sym v)] (hsM 63 L C N F)) [true, true] =
    some ([askP L C x 4, !(okS L x 4)], .val (.bool (.lit false)), hsM 63 L C N F) := by kernel_rfl

set_option maxRecDepth 100000 in
theorem getc8 (L C N : Nat) (F : Nat → Int) (x : Int) : seeM (hsM 156 L C N F) (call Try.prog cxm2 380 36 [.ptr 0 (.lit 0), .int .u64 (.sym x), .int .i64 (.lit 8)] (hsM 156 L C N F)) [true] =
    some ([askP L C x 8 && cond (okS L x 8) (bndC N (off x) 7 0) true], .val (.tuple [.int .u64 (.sym (cond (okS L x 8) (orC F (off x) 8) 0)), .bool (.sym (okS L x 8))]), hsM 156 L C N F) := by kernel_rfl
set_option maxRecDepth 100000 in
theorem getr8 (L C N : Nat) (F : Nat → Int) (x : Int) : seeM (hsM 63 L C N F) (call Try.prog cxm2 380 39 [.ptr 0 (.lit 0), .int .u64 (.sym x), .int .i64 (.lit 8)] (hsM 63 L C N F)) [true] =
    some ([askP L C x 8 && cond (!(okS L x 8)) true (bndD L N x 7)], .val (.tuple [.int .u64 (.sym (cond (!(okS L x 8)) 0 (refC F x 8 0))), .bool (.sym (!(!(okS L x 8))))]), hsM 63 L C N F) := by kernel_rfl
set_option maxRecDepth 100000 in
theorem putc8 (L C N : Nat) (F : Nat → Int) (x : Int) (v : Int) : seeM (hsM 156 L C N F) (call Try.prog cxm2 380 35 [.ptr 0 (.lit 0), .int .u64 (.sym x), .int .i64 (.lit 8), .int .u64 (.sym v)] (hsM 156 L C N F)) [true, true, true] =
    some ([askP L C x 8, okS L x 8, bndC N (off x) 7 0], .val (.bool (.lit true)), hsM 156 L C N (putC F (off x) v 8)) := by kernel_rfl
set_option maxRecDepth 100000 in
theorem putcn8 (L C N : Nat) (F : Nat → Int) (x : Int) (v : Int) : seeM (hsM 156 L C N F) (call Try.prog cxm2 380 35 [.ptr 0 (.lit 0), .int .u64 (.sym x), .int .i64 (.lit 8), .int .u64 (.sym v)] (hsM 156 L C N F)) [true, false] =
    some ([askP L C x 8, okS L x 8], .val (.bool (.lit false)), hsM 156 L C N F) := by kernel_rfl
set_option maxRecDepth 100000 in
theorem putr8 (L C N : Nat) (F : Nat → Int) (x : Int) (v : Int) : seeM (hsM 63 L C N F) (call Try.prog cxm2 380 40 [.ptr 0 (.lit 0), .int .u64 (.sym x), .int .i64 (.lit 8), .int .u64 (.sym v)] (hsM 63 L C N F)) [true, false, true] =
    some ([askP L C x 8, !(okS L x 8), bndR L N x 7 0], .val (.bool (.lit true)), hsM 63 L C N (putR F x 8 0 v)) := by kernel_rfl
set_option maxRecDepth 100000 in
theorem putrn8 (L C N : Nat) (F : Nat → Int) (x : Int) (v : Int) : seeM (hsM 63 L C N F) (call Try.prog cxm2 380 40 [.ptr 0 (.lit 0), .int .u64 (.sym x), .int .i64 (.lit 8), .int .u64 (.sym v)] (hsM 63 L C N F)) [true, true] =
    some ([askP L C x 8, !(okS L x 8)], .val (.bool (.lit false)), hsM 63 L C N F) := by kernel_rfl

set_option maxRecDepth 100000 in
theorem getcN (L C N : Nat) (F : Nat → Int) (x n : Int) : seeM (hsM 156 L C N F) (call Try.prog cxn 380 36 [.ptr 0 (.lit 0), .int .u64 (.sym x), .int .i64 (.sym n)] (hsM 156 L C N F)) [true] =
    some ([!(num n)], .val (.tuple [.int .u64 (.lit 0), .bool (.lit false)]), hsM 156 L C N F) := by kernel_rfl
set_option maxRecDepth 100000 in
theorem getrN (L C N : Nat) (F : Nat → Int) (x n : Int) : seeM (hsM 63 L C N F) (call Try.prog cxn 380 39 [.ptr 0 (.lit 0), .int .u64 (.sym x), .int .i64 (.sym n)] (hsM 63 L C N F)) [true] =
    some ([askP L C x n && !(num n)], .val (.tuple [.int .u64 (.lit 0), .bool (.lit false)]), hsM 63 L C N F) := by kernel_rfl
set_option maxRecDepth 100000 in
theorem putcN (L C N : Nat) (F : Nat → Int) (x n : Int) (v : Int) : seeM (hsM 156 L C N F) (call Try.prog cxn 380 35 [.ptr 0 (.lit 0), .int .u64 (.sym x), .int .i64 (.sym n), .int .u64 (.sym v)] (hsM 156 L C N F)) [true] =
    some ([!(num n)], .val (.bool (.lit false)), hsM 156 L C N F) := by kernel_rfl
set_option maxRecDepth 100000 in
theorem putrN (L C N : Nat) (F : Nat → Int) (x n : Int) (v : Int) : seeM (hsM 63 L C N F) (call Try.prog cxn 380 40 [.ptr 0 (.lit 0), .int .u64 (.sym x), .int .i64 (.sym n), .int .u64 (.sym v)] (hsM 63 L C N F)) [true] =
    some ([askP L C x n && !(num n)], .val (.bool (.lit false)), hsM 63 L C N F) := by kernel_rfl

end Go.Proofs.Ytngcbpcfgolifaa.Ev
