/- The statement 'AmoAll': how many bytes any op has, what a register is told, and what stands in memory then, is as the document says. Conditions: none. -/
import Derived.Test.YtgljicadcegilaaWords
import Derived.Test.YtgljicadcegilaaAmoSums
namespace Go.Proofs.Ytgljicadcegilaa.AmoAll
open Go.RowKit Go.WideShapes Go.ChangeShapes Go.ChangeAt Ev AmoSums
set_option linter.unusedVariables false
set_option linter.unusedSimpArgs false

def VV (c0 c1 c2 c3 c4 c5 c6 c7 c8 c9 c10 c11 c12 c13 c14 c15 c16 c17 c18 c19 c20 c21 c22 c23 c24 c25 c26 c27 c28 c29 c30 c31 c32 c33 c34 c35 : Bool) (m0 m1 a b : Int) : Bool := cond (litCmp .eql (sizeS 88) 8) (cond (litCmp .eql (cond (T1 c0 c1 c2 c3 c4 c5 c6 c7 c8 c9 c10 c11 c12 c13 c14 c15 c16 c17 c18 c19 c20 c21 c22 c23 c24 c25 c26 c27 c28 c29 c30 c31 c32 c33 c34 c35 m0 m1 0 0) 4 (cond (T2 c0 c1 c2 c3 c4 c5 c6 c7 c8 c9 c10 c11 c12 c13 c14 c15 c16 c17 c18 c19 c20 c21 c22 c23 c24 c25 c26 c27 c28 c29 c30 c31 c32 c33 c34 c35 m0 m1 0 0) 8 0)) (RSz c0 c1 c2 c3 c4 c5 c6 c7 c8 c9 c10 c11 c12 c13 c14 c15 c16 c17 c18 c19 c20 c21 c22 c23 c24 c25 c26 c27 c28 c29 c30 c31 c32 c33 c34 c35 m0 m1 0 0)) (cond (litCmp .eql (cond (T1 c0 c1 c2 c3 c4 c5 c6 c7 c8 c9 c10 c11 c12 c13 c14 c15 c16 c17 c18 c19 c20 c21 c22 c23 c24 c25 c26 c27 c28 c29 c30 c31 c32 c33 c34 c35 m0 m1 0 0) (LT c0 c1 c2 c3 c4 c5 c6 c7 c8 c9 c10 c11 c12 c13 c14 c15 c16 c17 c18 c19 c20 c21 c22 c23 c24 c25 c26 c27 c28 c29 c30 c31 c32 c33 c34 c35 m0 m1 a 0) (cond (T2 c0 c1 c2 c3 c4 c5 c6 c7 c8 c9 c10 c11 c12 c13 c14 c15 c16 c17 c18 c19 c20 c21 c22 c23 c24 c25 c26 c27 c28 c29 c30 c31 c32 c33 c34 c35 m0 m1 0 0) a a)) (RTo c0 c1 c2 c3 c4 c5 c6 c7 c8 c9 c10 c11 c12 c13 c14 c15 c16 c17 c18 c19 c20 c21 c22 c23 c24 c25 c26 c27 c28 c29 c30 c31 c32 c33 c34 c35 m0 m1 a 0)) (litCmp .eql (cond (T1 c0 c1 c2 c3 c4 c5 c6 c7 c8 c9 c10 c11 c12 c13 c14 c15 c16 c17 c18 c19 c20 c21 c22 c23 c24 c25 c26 c27 c28 c29 c30 c31 c32 c33 c34 c35 m0 m1 0 0) (L4 c0 c1 c2 c3 c4 c5 c6 c7 c8 c9 c10 c11 c12 c13 c14 c15 c16 c17 c18 c19 c20 c21 c22 c23 c24 c25 c26 c27 c28 c29 c30 c31 c32 c33 c34 c35 m0 m1 a b) (cond (T2 c0 c1 c2 c3 c4 c5 c6 c7 c8 c9 c10 c11 c12 c13 c14 c15 c16 c17 c18 c19 c20 c21 c22 c23 c24 c25 c26 c27 c28 c29 c30 c31 c32 c33 c34 c35 m0 m1 0 0) (L8 c0 c1 c2 c3 c4 c5 c6 c7 c8 c9 c10 c11 c12 c13 c14 c15 c16 c17 c18 c19 c20 c21 c22 c23 c24 c25 c26 c27 c28 c29 c30 c31 c32 c33 c34 c35 m0 m1 a b) a)) (RNe c0 c1 c2 c3 c4 c5 c6 c7 c8 c9 c10 c11 c12 c13 c14 c15 c16 c17 c18 c19 c20 c21 c22 c23 c24 c25 c26 c27 c28 c29 c30 c31 c32 c33 c34 c35 m0 m1 a b)) false) false) false
def V (o a b : Int) : Bool := (cond (litCmp .eql (sizeS 88) 8) (cond (litCmp .eql (sizeS o) (rsizeS o)) (cond (litCmp .eql (toldS o a) (rtoldS o a)) (litCmp .eql (newS o a b) (rnewS o a b)) false) false) false)
def Z (a b : Int) : Bool := (cond (litCmp .eql a a) (litCmp .eql a a) false)
def F76 (a b : Int) : Bool := (cond (litCmp .eql (IntKind.wrap .u64 (litBin .shr .i64 (IntKind.wrap .i64 (litBin .shl .u64 a 32)) 32)) (cond (litCmp .geq (litBin .rem .u64 a 4294967296) 2147483648) (litBin .sub .u64 (litBin .rem .u64 a 4294967296) 4294967296) (litBin .rem .u64 a 4294967296))) (litCmp .eql (IntKind.wrap .u64 (IntKind.wrap .u32 (IntKind.wrap .u64 (litBin .shr .i64 (IntKind.wrap .i64 (litBin .shl .u64 a 32)) 32)))) (litBin .rem .u64 (litBin .rem .u64 a 4294967296) 4294967296)) false)
def F77 (a b : Int) : Bool := (cond (litCmp .eql (IntKind.wrap .u64 (litBin .shr .i64 (IntKind.wrap .i64 (litBin .shl .u64 a 32)) 32)) (cond (litCmp .geq (litBin .rem .u64 a 4294967296) 2147483648) (litBin .sub .u64 (litBin .rem .u64 a 4294967296) 4294967296) (litBin .rem .u64 a 4294967296))) (litCmp .eql (IntKind.wrap .u64 (IntKind.wrap .u32 (IntKind.wrap .u64 (litBin .shr .i64 (IntKind.wrap .i64 (litBin .shl .u64 b 32)) 32)))) (litBin .rem .u64 (litBin .rem .u64 b 4294967296) 4294967296)) false)
def F79 (a b : Int) : Bool := (cond (litCmp .eql (IntKind.wrap .u64 (litBin .shr .i64 (IntKind.wrap .i64 (litBin .shl .u64 a 32)) 32)) (cond (litCmp .geq (litBin .rem .u64 a 4294967296) 2147483648) (litBin .sub .u64 (litBin .rem .u64 a 4294967296) 4294967296) (litBin .rem .u64 a 4294967296))) (litCmp .eql (IntKind.wrap .u64 (IntKind.wrap .u32 (litBin .add .u64 (IntKind.wrap .u64 (litBin .shr .i64 (IntKind.wrap .i64 (litBin .shl .u64 a 32)) 32)) (IntKind.wrap .u64 (litBin .shr .i64 (IntKind.wrap .i64 (litBin .shl .u64 b 32)) 32))))) (litBin .rem .u64 (litBin .add .u64 (litBin .rem .u64 a 4294967296) (litBin .rem .u64 b 4294967296)) 4294967296)) false)
def F80 (a b : Int) : Bool := (cond (litCmp .eql (IntKind.wrap .u64 (litBin .shr .i64 (IntKind.wrap .i64 (litBin .shl .u64 a 32)) 32)) (cond (litCmp .geq (litBin .rem .u64 a 4294967296) 2147483648) (litBin .sub .u64 (litBin .rem .u64 a 4294967296) 4294967296) (litBin .rem .u64 a 4294967296))) (litCmp .eql (IntKind.wrap .u64 (IntKind.wrap .u32 (litBin .xor .u64 (IntKind.wrap .u64 (litBin .shr .i64 (IntKind.wrap .i64 (litBin .shl .u64 a 32)) 32)) (IntKind.wrap .u64 (litBin .shr .i64 (IntKind.wrap .i64 (litBin .shl .u64 b 32)) 32))))) (litBin .rem .u64 (litBin .xor .u64 (litBin .rem .u64 a 4294967296) (litBin .rem .u64 b 4294967296)) 4294967296)) false)
def F81 (a b : Int) : Bool := (cond (litCmp .eql (IntKind.wrap .u64 (litBin .shr .i64 (IntKind.wrap .i64 (litBin .shl .u64 a 32)) 32)) (cond (litCmp .geq (litBin .rem .u64 a 4294967296) 2147483648) (litBin .sub .u64 (litBin .rem .u64 a 4294967296) 4294967296) (litBin .rem .u64 a 4294967296))) (litCmp .eql (IntKind.wrap .u64 (IntKind.wrap .u32 (litBin .and .u64 (IntKind.wrap .u64 (litBin .shr .i64 (IntKind.wrap .i64 (litBin .shl .u64 a 32)) 32)) (IntKind.wrap .u64 (litBin .shr .i64 (IntKind.wrap .i64 (litBin .shl .u64 b 32)) 32))))) (litBin .rem .u64 (litBin .and .u64 (litBin .rem .u64 a 4294967296) (litBin .rem .u64 b 4294967296)) 4294967296)) false)
def F82 (a b : Int) : Bool := (cond (litCmp .eql (IntKind.wrap .u64 (litBin .shr .i64 (IntKind.wrap .i64 (litBin .shl .u64 a 32)) 32)) (cond (litCmp .geq (litBin .rem .u64 a 4294967296) 2147483648) (litBin .sub .u64 (litBin .rem .u64 a 4294967296) 4294967296) (litBin .rem .u64 a 4294967296))) (litCmp .eql (IntKind.wrap .u64 (IntKind.wrap .u32 (litBin .or .u64 (IntKind.wrap .u64 (litBin .shr .i64 (IntKind.wrap .i64 (litBin .shl .u64 a 32)) 32)) (IntKind.wrap .u64 (litBin .shr .i64 (IntKind.wrap .i64 (litBin .shl .u64 b 32)) 32))))) (litBin .rem .u64 (litBin .or .u64 (litBin .rem .u64 a 4294967296) (litBin .rem .u64 b 4294967296)) 4294967296)) false)
def F83 (a b : Int) : Bool := (cond (litCmp .eql (IntKind.wrap .u64 (litBin .shr .i64 (IntKind.wrap .i64 (litBin .shl .u64 a 32)) 32)) (cond (litCmp .geq (litBin .rem .u64 a 4294967296) 2147483648) (litBin .sub .u64 (litBin .rem .u64 a 4294967296) 4294967296) (litBin .rem .u64 a 4294967296))) (litCmp .eql (IntKind.wrap .u64 (IntKind.wrap .u32 (IntKind.wrap .u64 (cond (litCmp .lss (IntKind.wrap .i64 (IntKind.wrap .u64 (litBin .shr .i64 (IntKind.wrap .i64 (litBin .shl .u64 b 32)) 32))) (IntKind.wrap .i64 (IntKind.wrap .u64 (litBin .shr .i64 (IntKind.wrap .i64 (litBin .shl .u64 a 32)) 32)))) (IntKind.wrap .i64 (IntKind.wrap .u64 (litBin .shr .i64 (IntKind.wrap .i64 (litBin .shl .u64 b 32)) 32))) (IntKind.wrap .i64 (IntKind.wrap .u64 (litBin .shr .i64 (IntKind.wrap .i64 (litBin .shl .u64 a 32)) 32))))))) (litBin .rem .u64 (cond (cond (litCmp .neq (litBin .shr .u64 (cond (litCmp .geq (litBin .rem .u64 b 4294967296) 2147483648) (litBin .sub .u64 (litBin .rem .u64 b 4294967296) 4294967296) (litBin .rem .u64 b 4294967296)) 63) (litBin .shr .u64 (cond (litCmp .geq (litBin .rem .u64 a 4294967296) 2147483648) (litBin .sub .u64 (litBin .rem .u64 a 4294967296) 4294967296) (litBin .rem .u64 a 4294967296)) 63)) (litCmp .eql (litBin .shr .u64 (cond (litCmp .geq (litBin .rem .u64 b 4294967296) 2147483648) (litBin .sub .u64 (litBin .rem .u64 b 4294967296) 4294967296) (litBin .rem .u64 b 4294967296)) 63) 1) (litCmp .lss (cond (litCmp .geq (litBin .rem .u64 b 4294967296) 2147483648) (litBin .sub .u64 (litBin .rem .u64 b 4294967296) 4294967296) (litBin .rem .u64 b 4294967296)) (cond (litCmp .geq (litBin .rem .u64 a 4294967296) 2147483648) (litBin .sub .u64 (litBin .rem .u64 a 4294967296) 4294967296) (litBin .rem .u64 a 4294967296)))) (cond (litCmp .geq (litBin .rem .u64 b 4294967296) 2147483648) (litBin .sub .u64 (litBin .rem .u64 b 4294967296) 4294967296) (litBin .rem .u64 b 4294967296)) (cond (litCmp .geq (litBin .rem .u64 a 4294967296) 2147483648) (litBin .sub .u64 (litBin .rem .u64 a 4294967296) 4294967296) (litBin .rem .u64 a 4294967296))) 4294967296)) false)
def F84 (a b : Int) : Bool := (cond (litCmp .eql (IntKind.wrap .u64 (litBin .shr .i64 (IntKind.wrap .i64 (litBin .shl .u64 a 32)) 32)) (cond (litCmp .geq (litBin .rem .u64 a 4294967296) 2147483648) (litBin .sub .u64 (litBin .rem .u64 a 4294967296) 4294967296) (litBin .rem .u64 a 4294967296))) (litCmp .eql (IntKind.wrap .u64 (IntKind.wrap .u32 (IntKind.wrap .u64 (cond (litCmp .gtr (IntKind.wrap .i64 (IntKind.wrap .u64 (litBin .shr .i64 (IntKind.wrap .i64 (litBin .shl .u64 b 32)) 32))) (IntKind.wrap .i64 (IntKind.wrap .u64 (litBin .shr .i64 (IntKind.wrap .i64 (litBin .shl .u64 a 32)) 32)))) (IntKind.wrap .i64 (IntKind.wrap .u64 (litBin .shr .i64 (IntKind.wrap .i64 (litBin .shl .u64 b 32)) 32))) (IntKind.wrap .i64 (IntKind.wrap .u64 (litBin .shr .i64 (IntKind.wrap .i64 (litBin .shl .u64 a 32)) 32))))))) (litBin .rem .u64 (cond (cond (litCmp .neq (litBin .shr .u64 (cond (litCmp .geq (litBin .rem .u64 a 4294967296) 2147483648) (litBin .sub .u64 (litBin .rem .u64 a 4294967296) 4294967296) (litBin .rem .u64 a 4294967296)) 63) (litBin .shr .u64 (cond (litCmp .geq (litBin .rem .u64 b 4294967296) 2147483648) (litBin .sub .u64 (litBin .rem .u64 b 4294967296) 4294967296) (litBin .rem .u64 b 4294967296)) 63)) (litCmp .eql (litBin .shr .u64 (cond (litCmp .geq (litBin .rem .u64 a 4294967296) 2147483648) (litBin .sub .u64 (litBin .rem .u64 a 4294967296) 4294967296) (litBin .rem .u64 a 4294967296)) 63) 1) (litCmp .lss (cond (litCmp .geq (litBin .rem .u64 a 4294967296) 2147483648) (litBin .sub .u64 (litBin .rem .u64 a 4294967296) 4294967296) (litBin .rem .u64 a 4294967296)) (cond (litCmp .geq (litBin .rem .u64 b 4294967296) 2147483648) (litBin .sub .u64 (litBin .rem .u64 b 4294967296) 4294967296) (litBin .rem .u64 b 4294967296)))) (cond (litCmp .geq (litBin .rem .u64 b 4294967296) 2147483648) (litBin .sub .u64 (litBin .rem .u64 b 4294967296) 4294967296) (litBin .rem .u64 b 4294967296)) (cond (litCmp .geq (litBin .rem .u64 a 4294967296) 2147483648) (litBin .sub .u64 (litBin .rem .u64 a 4294967296) 4294967296) (litBin .rem .u64 a 4294967296))) 4294967296)) false)
def F85 (a b : Int) : Bool := (cond (litCmp .eql (IntKind.wrap .u64 (litBin .shr .i64 (IntKind.wrap .i64 (litBin .shl .u64 a 32)) 32)) (cond (litCmp .geq (litBin .rem .u64 a 4294967296) 2147483648) (litBin .sub .u64 (litBin .rem .u64 a 4294967296) 4294967296) (litBin .rem .u64 a 4294967296))) (litCmp .eql (IntKind.wrap .u64 (IntKind.wrap .u32 (cond (litCmp .lss (IntKind.wrap .u64 (litBin .shr .i64 (IntKind.wrap .i64 (litBin .shl .u64 b 32)) 32)) (IntKind.wrap .u64 (litBin .shr .i64 (IntKind.wrap .i64 (litBin .shl .u64 a 32)) 32))) (IntKind.wrap .u64 (litBin .shr .i64 (IntKind.wrap .i64 (litBin .shl .u64 b 32)) 32)) (IntKind.wrap .u64 (litBin .shr .i64 (IntKind.wrap .i64 (litBin .shl .u64 a 32)) 32))))) (litBin .rem .u64 (cond (litCmp .lss (litBin .rem .u64 b 4294967296) (litBin .rem .u64 a 4294967296)) (litBin .rem .u64 b 4294967296) (litBin .rem .u64 a 4294967296)) 4294967296)) false)
def F86 (a b : Int) : Bool := (cond (litCmp .eql (IntKind.wrap .u64 (litBin .shr .i64 (IntKind.wrap .i64 (litBin .shl .u64 a 32)) 32)) (cond (litCmp .geq (litBin .rem .u64 a 4294967296) 2147483648) (litBin .sub .u64 (litBin .rem .u64 a 4294967296) 4294967296) (litBin .rem .u64 a 4294967296))) (litCmp .eql (IntKind.wrap .u64 (IntKind.wrap .u32 (cond (litCmp .gtr (IntKind.wrap .u64 (litBin .shr .i64 (IntKind.wrap .i64 (litBin .shl .u64 b 32)) 32)) (IntKind.wrap .u64 (litBin .shr .i64 (IntKind.wrap .i64 (litBin .shl .u64 a 32)) 32))) (IntKind.wrap .u64 (litBin .shr .i64 (IntKind.wrap .i64 (litBin .shl .u64 b 32)) 32)) (IntKind.wrap .u64 (litBin .shr .i64 (IntKind.wrap .i64 (litBin .shl .u64 a 32)) 32))))) (litBin .rem .u64 (cond (litCmp .lss (litBin .rem .u64 a 4294967296) (litBin .rem .u64 b 4294967296)) (litBin .rem .u64 b 4294967296) (litBin .rem .u64 a 4294967296)) 4294967296)) false)
def F88 (a b : Int) : Bool := (cond (litCmp .eql a a) (litCmp .eql b b) false)
def F90 (a b : Int) : Bool := (cond (litCmp .eql a a) (litCmp .eql (litBin .add .u64 a b) (litBin .add .u64 a b)) false)
def F91 (a b : Int) : Bool := (cond (litCmp .eql a a) (litCmp .eql (litBin .xor .u64 a b) (litBin .xor .u64 a b)) false)
def F92 (a b : Int) : Bool := (cond (litCmp .eql a a) (litCmp .eql (litBin .and .u64 a b) (litBin .and .u64 a b)) false)
def F93 (a b : Int) : Bool := (cond (litCmp .eql a a) (litCmp .eql (litBin .or .u64 a b) (litBin .or .u64 a b)) false)
def F94 (a b : Int) : Bool := (cond (litCmp .eql a a) (litCmp .eql (IntKind.wrap .u64 (cond (litCmp .lss (IntKind.wrap .i64 b) (IntKind.wrap .i64 a)) (IntKind.wrap .i64 b) (IntKind.wrap .i64 a))) (cond (cond (litCmp .neq (litBin .shr .u64 b 63) (litBin .shr .u64 a 63)) (litCmp .eql (litBin .shr .u64 b 63) 1) (litCmp .lss b a)) b a)) false)
def F95 (a b : Int) : Bool := (cond (litCmp .eql a a) (litCmp .eql (IntKind.wrap .u64 (cond (litCmp .gtr (IntKind.wrap .i64 b) (IntKind.wrap .i64 a)) (IntKind.wrap .i64 b) (IntKind.wrap .i64 a))) (cond (cond (litCmp .neq (litBin .shr .u64 a 63) (litBin .shr .u64 b 63)) (litCmp .eql (litBin .shr .u64 a 63) 1) (litCmp .lss a b)) b a)) false)
def F96 (a b : Int) : Bool := (cond (litCmp .eql a a) (litCmp .eql (cond (litCmp .lss b a) b a) (cond (litCmp .lss b a) b a)) false)
def F97 (a b : Int) : Bool := (cond (litCmp .eql a a) (litCmp .eql (cond (litCmp .gtr b a) b a) (cond (litCmp .lss a b) b a)) false)
set_option maxRecDepth 100000 in
theorem road (o a b : Int) : ((call Try.prog cx_rnew 400 13 [.int .i64 (.sym o), .int .u64 (.sym a), .int .u64 (.sym b)] []).route []).map (fun p => (p.1, p.2.1)) = some ([], .val (.bool (.sym (V o a b)))) := by kernel_rfl

theorem at0 (a b : Int) : V 0 a b = Z a b := by kernel_rfl
theorem at1 (a b : Int) : V 1 a b = Z a b := by kernel_rfl
theorem at2 (a b : Int) : V 2 a b = Z a b := by kernel_rfl
theorem at3 (a b : Int) : V 3 a b = Z a b := by kernel_rfl
theorem at4 (a b : Int) : V 4 a b = Z a b := by kernel_rfl
theorem at5 (a b : Int) : V 5 a b = Z a b := by kernel_rfl
theorem at6 (a b : Int) : V 6 a b = Z a b := by kernel_rfl
theorem at7 (a b : Int) : V 7 a b = Z a b := by kernel_rfl
theorem at8 (a b : Int) : V 8 a b = Z a b := by kernel_rfl
theorem at9 (a b : Int) : V 9 a b = Z a b := by kernel_rfl
theorem at10 (a b : Int) : V 10 a b = Z a b := by kernel_rfl
theorem at11 (a b : Int) : V 11 a b = Z a b := by kernel_rfl
theorem at12 (a b : Int) : V 12 a b = Z a b := by kernel_rfl
theorem at13 (a b : Int) : V 13 a b = Z a b := by kernel_rfl
theorem at14 (a b : Int) : V 14 a b = Z a b := by kernel_rfl
theorem at15 (a b : Int) : V 15 a b = Z a b := by kernel_rfl
theorem at16 (a b : Int) : V 16 a b = Z a b := by kernel_rfl
theorem at17 (a b : Int) : V 17 a b = Z a b := by kernel_rfl
theorem at18 (a b : Int) : V 18 a b = Z a b := by kernel_rfl
theorem at19 (a b : Int) : V 19 a b = Z a b := by kernel_rfl
theorem at20 (a b : Int) : V 20 a b = Z a b := by kernel_rfl
theorem at21 (a b : Int) : V 21 a b = Z a b := by kernel_rfl
theorem at22 (a b : Int) : V 22 a b = Z a b := by kernel_rfl
theorem at23 (a b : Int) : V 23 a b = Z a b := by kernel_rfl
theorem at24 (a b : Int) : V 24 a b = Z a b := by kernel_rfl
theorem at25 (a b : Int) : V 25 a b = Z a b := by kernel_rfl
theorem at26 (a b : Int) : V 26 a b = Z a b := by kernel_rfl
theorem at27 (a b : Int) : V 27 a b = Z a b := by kernel_rfl
theorem at28 (a b : Int) : V 28 a b = Z a b := by kernel_rfl
theorem at29 (a b : Int) : V 29 a b = Z a b := by kernel_rfl
theorem at30 (a b : Int) : V 30 a b = Z a b := by kernel_rfl
theorem at31 (a b : Int) : V 31 a b = Z a b := by kernel_rfl
theorem at32 (a b : Int) : V 32 a b = Z a b := by kernel_rfl
theorem at33 (a b : Int) : V 33 a b = Z a b := by kernel_rfl
theorem at34 (a b : Int) : V 34 a b = Z a b := by kernel_rfl
theorem at35 (a b : Int) : V 35 a b = Z a b := by kernel_rfl
theorem at36 (a b : Int) : V 36 a b = Z a b := by kernel_rfl
theorem at37 (a b : Int) : V 37 a b = Z a b := by kernel_rfl
theorem at38 (a b : Int) : V 38 a b = Z a b := by kernel_rfl
theorem at39 (a b : Int) : V 39 a b = Z a b := by kernel_rfl
theorem at40 (a b : Int) : V 40 a b = Z a b := by kernel_rfl
theorem at41 (a b : Int) : V 41 a b = Z a b := by kernel_rfl
theorem at42 (a b : Int) : V 42 a b = Z a b := by kernel_rfl
theorem at43 (a b : Int) : V 43 a b = Z a b := by kernel_rfl
theorem at44 (a b : Int) : V 44 a b = Z a b := by kernel_rfl
theorem at45 (a b : Int) : V 45 a b = Z a b := by kernel_rfl
theorem at46 (a b : Int) : V 46 a b = Z a b := by kernel_rfl
theorem at47 (a b : Int) : V 47 a b = Z a b := by kernel_rfl
theorem at48 (a b : Int) : V 48 a b = Z a b := by kernel_rfl
theorem at49 (a b : Int) : V 49 a b = Z a b := by kernel_rfl
theorem at50 (a b : Int) : V 50 a b = Z a b := by kernel_rfl
theorem at51 (a b : Int) : V 51 a b = Z a b := by kernel_rfl
theorem at52 (a b : Int) : V 52 a b = Z a b := by kernel_rfl
theorem at53 (a b : Int) : V 53 a b = Z a b := by kernel_rfl
theorem at54 (a b : Int) : V 54 a b = Z a b := by kernel_rfl
theorem at55 (a b : Int) : V 55 a b = Z a b := by kernel_rfl
theorem at56 (a b : Int) : V 56 a b = Z a b := by kernel_rfl
theorem at57 (a b : Int) : V 57 a b = Z a b := by kernel_rfl
theorem at58 (a b : Int) : V 58 a b = Z a b := by kernel_rfl
theorem at59 (a b : Int) : V 59 a b = Z a b := by kernel_rfl
theorem at60 (a b : Int) : V 60 a b = Z a b := by kernel_rfl
theorem at61 (a b : Int) : V 61 a b = Z a b := by kernel_rfl
theorem at62 (a b : Int) : V 62 a b = Z a b := by kernel_rfl
theorem at63 (a b : Int) : V 63 a b = Z a b := by kernel_rfl
theorem at64 (a b : Int) : V 64 a b = Z a b := by kernel_rfl
theorem at65 (a b : Int) : V 65 a b = Z a b := by kernel_rfl
theorem at66 (a b : Int) : V 66 a b = Z a b := by kernel_rfl
theorem at67 (a b : Int) : V 67 a b = Z a b := by kernel_rfl
theorem at68 (a b : Int) : V 68 a b = Z a b := by kernel_rfl
theorem at69 (a b : Int) : V 69 a b = Z a b := by kernel_rfl
theorem at70 (a b : Int) : V 70 a b = Z a b := by kernel_rfl
theorem at71 (a b : Int) : V 71 a b = Z a b := by kernel_rfl
theorem at72 (a b : Int) : V 72 a b = Z a b := by kernel_rfl
theorem at73 (a b : Int) : V 73 a b = Z a b := by kernel_rfl
theorem at74 (a b : Int) : V 74 a b = Z a b := by kernel_rfl
theorem at75 (a b : Int) : V 75 a b = Z a b := by kernel_rfl
theorem at76 (a b : Int) : V 76 a b = F76 a b := by kernel_rfl
theorem at77 (a b : Int) : V 77 a b = F77 a b := by kernel_rfl
theorem at78 (a b : Int) : V 78 a b = F77 a b := by kernel_rfl
theorem at79 (a b : Int) : V 79 a b = F79 a b := by kernel_rfl
theorem at80 (a b : Int) : V 80 a b = F80 a b := by kernel_rfl
theorem at81 (a b : Int) : V 81 a b = F81 a b := by kernel_rfl
theorem at82 (a b : Int) : V 82 a b = F82 a b := by kernel_rfl
theorem at83 (a b : Int) : V 83 a b = F83 a b := by kernel_rfl
theorem at84 (a b : Int) : V 84 a b = F84 a b := by kernel_rfl
theorem at85 (a b : Int) : V 85 a b = F85 a b := by kernel_rfl
theorem at86 (a b : Int) : V 86 a b = F86 a b := by kernel_rfl
theorem at87 (a b : Int) : V 87 a b = Z a b := by kernel_rfl
theorem at88 (a b : Int) : V 88 a b = F88 a b := by kernel_rfl
theorem at89 (a b : Int) : V 89 a b = F88 a b := by kernel_rfl
theorem at90 (a b : Int) : V 90 a b = F90 a b := by kernel_rfl
theorem at91 (a b : Int) : V 91 a b = F91 a b := by kernel_rfl
theorem at92 (a b : Int) : V 92 a b = F92 a b := by kernel_rfl
theorem at93 (a b : Int) : V 93 a b = F93 a b := by kernel_rfl
theorem at94 (a b : Int) : V 94 a b = F94 a b := by kernel_rfl
theorem at95 (a b : Int) : V 95 a b = F95 a b := by kernel_rfl
theorem at96 (a b : Int) : V 96 a b = F96 a b := by kernel_rfl
theorem at97 (a b : Int) : V 97 a b = F97 a b := by kernel_rfl
theorem belowZ (d15 d16 d17 d18 d19 d20 d21 d22 d23 d24 : Bool) (m0 m1 a b : Int) : VV true true true true true true true true true true true true true true true d15 d16 d17 d18 d19 d20 d21 d22 d23 d24 false false false false false false false false false false true m0 m1 a b = Z a b := by kernel_rfl
theorem below {o : Int} (a b : Int) (wo : -9223372036854775808 ≤ o ∧ o < 9223372036854775808) (h : o < 0) : V o a b = Z a b := by
  have e : V o a b = VV (litCmp .leq o 0) (litCmp .leq o 4) (litCmp .leq o 10) (litCmp .leq o 17) (litCmp .leq o 21) (litCmp .leq o 30) (litCmp .leq o 40) (litCmp .leq o 44) (litCmp .leq o 49) (litCmp .leq o 57) (litCmp .leq o 62) (litCmp .leq o 69) (litCmp .leq o 75) (litCmp .leq o 86) (litCmp .leq o 97) (litCmp .eql (litBin .add .i64 o 11) 88) (litCmp .eql (litBin .add .i64 o 11) 89) (litCmp .eql (litBin .add .i64 o 11) 90) (litCmp .eql (litBin .add .i64 o 11) 91) (litCmp .eql (litBin .add .i64 o 11) 92) (litCmp .eql (litBin .add .i64 o 11) 93) (litCmp .eql (litBin .add .i64 o 11) 94) (litCmp .eql (litBin .add .i64 o 11) 95) (litCmp .eql (litBin .add .i64 o 11) 96) (litCmp .eql (litBin .add .i64 o 11) 97) (litCmp .eql o 88) (litCmp .eql o 89) (litCmp .eql o 90) (litCmp .eql o 91) (litCmp .eql o 92) (litCmp .eql o 93) (litCmp .eql o 94) (litCmp .eql o 95) (litCmp .eql o 96) (litCmp .eql o 97) (litCmp .lss o 0) (litBin .sub .i64 o 76) (litBin .sub .i64 o 87) a b := by kernel_rfl
  rw [e]
  clear e
  have e0 : (litCmp .leq o 0) = true := decide_eq_true (by omega)
  have e1 : (litCmp .leq o 4) = true := decide_eq_true (by omega)
  have e2 : (litCmp .leq o 10) = true := decide_eq_true (by omega)
  have e3 : (litCmp .leq o 17) = true := decide_eq_true (by omega)
  have e4 : (litCmp .leq o 21) = true := decide_eq_true (by omega)
  have e5 : (litCmp .leq o 30) = true := decide_eq_true (by omega)
  have e6 : (litCmp .leq o 40) = true := decide_eq_true (by omega)
  have e7 : (litCmp .leq o 44) = true := decide_eq_true (by omega)
  have e8 : (litCmp .leq o 49) = true := decide_eq_true (by omega)
  have e9 : (litCmp .leq o 57) = true := decide_eq_true (by omega)
  have e10 : (litCmp .leq o 62) = true := decide_eq_true (by omega)
  have e11 : (litCmp .leq o 69) = true := decide_eq_true (by omega)
  have e12 : (litCmp .leq o 75) = true := decide_eq_true (by omega)
  have e13 : (litCmp .leq o 86) = true := decide_eq_true (by omega)
  have e14 : (litCmp .leq o 97) = true := decide_eq_true (by omega)
  have e25 : (litCmp .eql o 88) = false := decide_eq_false (by omega)
  have e26 : (litCmp .eql o 89) = false := decide_eq_false (by omega)
  have e27 : (litCmp .eql o 90) = false := decide_eq_false (by omega)
  have e28 : (litCmp .eql o 91) = false := decide_eq_false (by omega)
  have e29 : (litCmp .eql o 92) = false := decide_eq_false (by omega)
  have e30 : (litCmp .eql o 93) = false := decide_eq_false (by omega)
  have e31 : (litCmp .eql o 94) = false := decide_eq_false (by omega)
  have e32 : (litCmp .eql o 95) = false := decide_eq_false (by omega)
  have e33 : (litCmp .eql o 96) = false := decide_eq_false (by omega)
  have e34 : (litCmp .eql o 97) = false := decide_eq_false (by omega)
  have e35 : (litCmp .lss o 0) = true := decide_eq_true (by omega)
  rw [e0, e1, e2, e3, e4, e5, e6, e7, e8, e9, e10, e11, e12, e13, e14, e25, e26, e27, e28, e29, e30, e31, e32, e33, e34, e35]
  exact belowZ _ _ _ _ _ _ _ _ _ _ _ _ a b
theorem aboveZ (d15 d16 d17 d18 d19 d20 d21 d22 d23 d24 : Bool) (m0 m1 a b : Int) : VV false false false false false false false false false false false false false false false d15 d16 d17 d18 d19 d20 d21 d22 d23 d24 false false false false false false false false false false false m0 m1 a b = Z a b := by kernel_rfl
theorem above {o : Int} (a b : Int) (wo : -9223372036854775808 ≤ o ∧ o < 9223372036854775808) (h : 97 < o) : V o a b = Z a b := by
  have e : V o a b = VV (litCmp .leq o 0) (litCmp .leq o 4) (litCmp .leq o 10) (litCmp .leq o 17) (litCmp .leq o 21) (litCmp .leq o 30) (litCmp .leq o 40) (litCmp .leq o 44) (litCmp .leq o 49) (litCmp .leq o 57) (litCmp .leq o 62) (litCmp .leq o 69) (litCmp .leq o 75) (litCmp .leq o 86) (litCmp .leq o 97) (litCmp .eql (litBin .add .i64 o 11) 88) (litCmp .eql (litBin .add .i64 o 11) 89) (litCmp .eql (litBin .add .i64 o 11) 90) (litCmp .eql (litBin .add .i64 o 11) 91) (litCmp .eql (litBin .add .i64 o 11) 92) (litCmp .eql (litBin .add .i64 o 11) 93) (litCmp .eql (litBin .add .i64 o 11) 94) (litCmp .eql (litBin .add .i64 o 11) 95) (litCmp .eql (litBin .add .i64 o 11) 96) (litCmp .eql (litBin .add .i64 o 11) 97) (litCmp .eql o 88) (litCmp .eql o 89) (litCmp .eql o 90) (litCmp .eql o 91) (litCmp .eql o 92) (litCmp .eql o 93) (litCmp .eql o 94) (litCmp .eql o 95) (litCmp .eql o 96) (litCmp .eql o 97) (litCmp .lss o 0) (litBin .sub .i64 o 76) (litBin .sub .i64 o 87) a b := by kernel_rfl
  rw [e]
  clear e
  have e0 : (litCmp .leq o 0) = false := decide_eq_false (by omega)
  have e1 : (litCmp .leq o 4) = false := decide_eq_false (by omega)
  have e2 : (litCmp .leq o 10) = false := decide_eq_false (by omega)
  have e3 : (litCmp .leq o 17) = false := decide_eq_false (by omega)
  have e4 : (litCmp .leq o 21) = false := decide_eq_false (by omega)
  have e5 : (litCmp .leq o 30) = false := decide_eq_false (by omega)
  have e6 : (litCmp .leq o 40) = false := decide_eq_false (by omega)
  have e7 : (litCmp .leq o 44) = false := decide_eq_false (by omega)
  have e8 : (litCmp .leq o 49) = false := decide_eq_false (by omega)
  have e9 : (litCmp .leq o 57) = false := decide_eq_false (by omega)
  have e10 : (litCmp .leq o 62) = false := decide_eq_false (by omega)
  have e11 : (litCmp .leq o 69) = false := decide_eq_false (by omega)
  have e12 : (litCmp .leq o 75) = false := decide_eq_false (by omega)
  have e13 : (litCmp .leq o 86) = false := decide_eq_false (by omega)
  have e14 : (litCmp .leq o 97) = false := decide_eq_false (by omega)
  have e25 : (litCmp .eql o 88) = false := decide_eq_false (by omega)
  have e26 : (litCmp .eql o 89) = false := decide_eq_false (by omega)
  have e27 : (litCmp .eql o 90) = false := decide_eq_false (by omega)
  have e28 : (litCmp .eql o 91) = false := decide_eq_false (by omega)
  have e29 : (litCmp .eql o 92) = false := decide_eq_false (by omega)
  have e30 : (litCmp .eql o 93) = false := decide_eq_false (by omega)
  have e31 : (litCmp .eql o 94) = false := decide_eq_false (by omega)
  have e32 : (litCmp .eql o 95) = false := decide_eq_false (by omega)
  have e33 : (litCmp .eql o 96) = false := decide_eq_false (by omega)
  have e34 : (litCmp .eql o 97) = false := decide_eq_false (by omega)
  have e35 : (litCmp .lss o 0) = false := decide_eq_false (by omega)
  rw [e0, e1, e2, e3, e4, e5, e6, e7, e8, e9, e10, e11, e12, e13, e14, e25, e26, e27, e28, e29, e30, e31, e32, e33, e34, e35]
  exact aboveZ _ _ _ _ _ _ _ _ _ _ _ _ a b

theorem told {x : Int} : cond (litCmp .geq (x % 4294967296) 2147483648) (litBin .sub .u64 (x % 4294967296) 4294967296) (x % 4294967296) = sx x := by
  unfold sx
  by_cases h : 2147483648 ≤ x % 4294967296
  · have h1 : litCmp .geq (x % 4294967296) 2147483648 = true := decide_eq_true h
    rw [h1, cond_true, sub_eq]
    omega
  · have h1 : litCmp .geq (x % 4294967296) 2147483648 = false := decide_eq_false h
    rw [h1, cond_false]
    omega
theorem minE {A B : Int} (hA : inU A) (hB : inU B) : cond (litCmp .neq (litBin .shr .u64 B 63) (litBin .shr .u64 A 63)) (litCmp .eql (litBin .shr .u64 B 63) 1) (litCmp .lss B A) = litCmp .lss (IntKind.wrap .i64 B) (IntKind.wrap .i64 A) := by
  unfold inU at hA hB
  rw [shr63, shr63, wrapi, wrapi]
  by_cases h : B / 9223372036854775808 = A / 9223372036854775808
  · rw [neq_of h, cond_false, lss_eq, lss_eq]
    exact decide_eq_decide.2 (by omega)
  · have h1 : litCmp .neq (B / 9223372036854775808) (A / 9223372036854775808) = true := by rw [neq_eq, decide_eq_false h]; rfl
    rw [h1, cond_true, eql_eq, lss_eq]
    exact decide_eq_decide.2 (by omega)
theorem unsC {A B : Int} (hA : inU A) (hB : inU B) (c : Bool) : IntKind.wrap .u64 (cond c (IntKind.wrap .i64 B) (IntKind.wrap .i64 A)) = cond c B A := by
  cases c
  · exact uns hA
  · exact uns hB
theorem inM (x : Int) : inU (x % 4294967296) := by unfold inU; omega
theorem gtrE (x y : Int) : litCmp .gtr y x = litCmp .lss x y := rfl
theorem bitsM (op : BinOp) (f : Nat → Nat → Nat) (hop : ∀ {x y : Nat}, x < 18446744073709551616 → y < 18446744073709551616 → litBin op .u64 (x : Int) (y : Int) = ((f x y : Nat) : Int)) (hf : ∀ x y, f x y % 2 ^ 32 = f (x % 2 ^ 32) (y % 2 ^ 32)) {a b : Int} :
    litBin op .u64 (sx a) (sx b) % 4294967296 = litBin op .u64 (a % 4294967296) (b % 4294967296) % 4294967296 := by
  have e1 := sx_mod a
  have e2 := sx_mod b
  obtain ⟨n, h1, hn⟩ := (inU_sx a).nat
  obtain ⟨m, h2, hm⟩ := (inU_sx b).nat
  rw [h1] at e1 ⊢
  rw [h2] at e2 ⊢
  have e3 : a % 4294967296 = ((n % 2 ^ 32 : Nat) : Int) := by omega
  have e4 : b % 4294967296 = ((m % 2 ^ 32 : Nat) : Int) := by omega
  have k := hf n m
  have k2 := hf (n % 2 ^ 32) (m % 2 ^ 32)
  rw [Nat.mod_mod, Nat.mod_mod] at k2
  rw [e3, e4, hop hn hm, hop (by omega) (by omega)]
  omega
theorem is76 {a b : Int} (ha : inU a) (hb : inU b) : F76 a b = true := by
  unfold F76
  simp only [sx32, rem32 ha, rem32 hb, told, eql_self, cond_true, low32]
  rw [rem32 (inM a), sx_mod]
  exact eql_of (by omega)
theorem is77 {a b : Int} (ha : inU a) (hb : inU b) : F77 a b = true := by
  unfold F77
  simp only [sx32, rem32 ha, rem32 hb, told, eql_self, cond_true, low32]
  rw [rem32 (inM b), sx_mod]
  exact eql_of (by omega)
theorem is79 {a b : Int} (ha : inU a) (hb : inU b) : F79 a b = true := by
  unfold F79
  simp only [sx32, rem32 ha, rem32 hb, told, eql_self, cond_true, low32]
  rw [rem32 (inU.add _ _)]
  refine eql_of ?_
  rw [add_eq, add_eq]
  unfold sx
  omega
theorem is80 {a b : Int} (ha : inU a) (hb : inU b) : F80 a b = true := by
  unfold F80
  simp only [sx32, rem32 ha, rem32 hb, told, eql_self, cond_true, low32]
  rw [rem32 (show inU (litBin .xor .u64 (a % 4294967296) (b % 4294967296)) from inU_wrap _)]
  exact eql_of (bitsM .xor (· ^^^ ·) xor_nat (fun _ _ => Nat.xor_mod_two_pow))
theorem is81 {a b : Int} (ha : inU a) (hb : inU b) : F81 a b = true := by
  unfold F81
  simp only [sx32, rem32 ha, rem32 hb, told, eql_self, cond_true, low32]
  rw [rem32 (show inU (litBin .and .u64 (a % 4294967296) (b % 4294967296)) from inU_wrap _)]
  exact eql_of (bitsM .and (· &&& ·) and_nat (fun _ _ => Nat.and_mod_two_pow))
theorem is82 {a b : Int} (ha : inU a) (hb : inU b) : F82 a b = true := by
  unfold F82
  simp only [sx32, rem32 ha, rem32 hb, told, eql_self, cond_true, low32]
  rw [rem32 (show inU (litBin .or .u64 (a % 4294967296) (b % 4294967296)) from inU_wrap _)]
  exact eql_of (bitsM .or (· ||| ·) or_nat (fun _ _ => Nat.or_mod_two_pow))
theorem is83 {a b : Int} (ha : inU a) (hb : inU b) : F83 a b = true := by
  unfold F83
  simp only [sx32, rem32 ha, rem32 hb, told, eql_self, cond_true, low32]
  rw [minE (inU_sx a) (inU_sx b), unsC (inU_sx a) (inU_sx b), rem32 (inU.cond (inU_sx b) (inU_sx a))]
  exact eql_self _
theorem is84 {a b : Int} (ha : inU a) (hb : inU b) : F84 a b = true := by
  unfold F84
  simp only [sx32, rem32 ha, rem32 hb, told, eql_self, cond_true, low32]
  rw [minE (inU_sx b) (inU_sx a), unsC (inU_sx a) (inU_sx b), gtrE, rem32 (inU.cond (inU_sx b) (inU_sx a))]
  exact eql_self _
theorem is85 {a b : Int} (ha : inU a) (hb : inU b) : F85 a b = true := by
  unfold F85
  simp only [sx32, rem32 ha, rem32 hb, told, eql_self, cond_true, low32]
  rw [rem32 (inU.cond (inM b) (inM a))]
  refine eql_of ?_
  rw [lss_eq, lss_eq]
  by_cases h : b % 4294967296 < a % 4294967296
  · rw [decide_eq_true h, decide_eq_true (show sx b < sx a by unfold sx; omega), cond_true, cond_true, sx_mod]
    omega
  · by_cases h2 : sx b < sx a
    · exact absurd h2 (by unfold sx; omega)
    · rw [decide_eq_false h, decide_eq_false h2, cond_false, cond_false, sx_mod]
      omega
theorem is86 {a b : Int} (ha : inU a) (hb : inU b) : F86 a b = true := by
  unfold F86
  simp only [sx32, rem32 ha, rem32 hb, told, eql_self, cond_true, low32]
  rw [rem32 (inU.cond (inM b) (inM a))]
  refine eql_of ?_
  rw [gtrE, lss_eq, lss_eq]
  by_cases h : a % 4294967296 < b % 4294967296
  · rw [decide_eq_true h, decide_eq_true (show sx a < sx b by unfold sx; omega), cond_true, cond_true, sx_mod]
    omega
  · by_cases h2 : sx a < sx b
    · exact absurd h2 (by unfold sx; omega)
    · rw [decide_eq_false h, decide_eq_false h2, cond_false, cond_false, sx_mod]
      omega
theorem is88 {a b : Int} (ha : inU a) (hb : inU b) : F88 a b = true := by
  unfold F88
  simp only [sx32, rem32 ha, rem32 hb, told, eql_self, cond_true, low32]
theorem is90 {a b : Int} (ha : inU a) (hb : inU b) : F90 a b = true := by
  unfold F90
  simp only [sx32, rem32 ha, rem32 hb, told, eql_self, cond_true, low32]
theorem is91 {a b : Int} (ha : inU a) (hb : inU b) : F91 a b = true := by
  unfold F91
  simp only [sx32, rem32 ha, rem32 hb, told, eql_self, cond_true, low32]
theorem is92 {a b : Int} (ha : inU a) (hb : inU b) : F92 a b = true := by
  unfold F92
  simp only [sx32, rem32 ha, rem32 hb, told, eql_self, cond_true, low32]
theorem is93 {a b : Int} (ha : inU a) (hb : inU b) : F93 a b = true := by
  unfold F93
  simp only [sx32, rem32 ha, rem32 hb, told, eql_self, cond_true, low32]
theorem is94 {a b : Int} (ha : inU a) (hb : inU b) : F94 a b = true := by
  unfold F94
  simp only [sx32, rem32 ha, rem32 hb, told, eql_self, cond_true, low32]
  rw [minE ha hb, unsC ha hb]
  exact eql_self _
theorem is95 {a b : Int} (ha : inU a) (hb : inU b) : F95 a b = true := by
  unfold F95
  simp only [sx32, rem32 ha, rem32 hb, told, eql_self, cond_true, low32]
  rw [minE hb ha, unsC ha hb, gtrE]
  exact eql_self _
theorem is96 {a b : Int} (ha : inU a) (hb : inU b) : F96 a b = true := by
  unfold F96
  simp only [sx32, rem32 ha, rem32 hb, told, eql_self, cond_true, low32]
theorem is97 {a b : Int} (ha : inU a) (hb : inU b) : F97 a b = true := by
  unfold F97
  simp only [sx32, rem32 ha, rem32 hb, told, eql_self, cond_true, low32]
  rw [gtrE]
  exact eql_self _
theorem isZ (a b : Int) : Z a b = true := by
  unfold Z
  simp only [eql_self, cond_true]
theorem law {o a b : Int} (wo : (Lit.int .i64 o).wf = true) (wa : (Lit.int .u64 a).wf = true) (wb : (Lit.int .u64 b).wf = true) : V o a b = true := by
  have ha := inU_wf wa
  have hb := inU_wf wb
  have ho := wf64i wo
  by_cases h0 : o < 0
  · exact (below a b ho h0).trans (isZ a b)
  by_cases h1 : 97 < o
  · exact (above a b ho h1).trans (isZ a b)
  obtain ⟨n, rfl⟩ : ∃ n : Nat, o = n := ⟨o.toNat, by omega⟩
  have hn : n < 98 := by omega
  clear h0 h1 ho wo
  match n, hn with
  | 0, _ => exact (at0 a b).trans (isZ a b)
  | 1, _ => exact (at1 a b).trans (isZ a b)
  | 2, _ => exact (at2 a b).trans (isZ a b)
  | 3, _ => exact (at3 a b).trans (isZ a b)
  | 4, _ => exact (at4 a b).trans (isZ a b)
  | 5, _ => exact (at5 a b).trans (isZ a b)
  | 6, _ => exact (at6 a b).trans (isZ a b)
  | 7, _ => exact (at7 a b).trans (isZ a b)
  | 8, _ => exact (at8 a b).trans (isZ a b)
  | 9, _ => exact (at9 a b).trans (isZ a b)
  | 10, _ => exact (at10 a b).trans (isZ a b)
  | 11, _ => exact (at11 a b).trans (isZ a b)
  | 12, _ => exact (at12 a b).trans (isZ a b)
  | 13, _ => exact (at13 a b).trans (isZ a b)
  | 14, _ => exact (at14 a b).trans (isZ a b)
  | 15, _ => exact (at15 a b).trans (isZ a b)
  | 16, _ => exact (at16 a b).trans (isZ a b)
  | 17, _ => exact (at17 a b).trans (isZ a b)
  | 18, _ => exact (at18 a b).trans (isZ a b)
  | 19, _ => exact (at19 a b).trans (isZ a b)
  | 20, _ => exact (at20 a b).trans (isZ a b)
  | 21, _ => exact (at21 a b).trans (isZ a b)
  | 22, _ => exact (at22 a b).trans (isZ a b)
  | 23, _ => exact (at23 a b).trans (isZ a b)
  | 24, _ => exact (at24 a b).trans (isZ a b)
  | 25, _ => exact (at25 a b).trans (isZ a b)
  | 26, _ => exact (at26 a b).trans (isZ a b)
  | 27, _ => exact (at27 a b).trans (isZ a b)
  | 28, _ => exact (at28 a b).trans (isZ a b)
  | 29, _ => exact (at29 a b).trans (isZ a b)
  | 30, _ => exact (at30 a b).trans (isZ a b)
  | 31, _ => exact (at31 a b).trans (isZ a b)
  | 32, _ => exact (at32 a b).trans (isZ a b)
  | 33, _ => exact (at33 a b).trans (isZ a b)
  | 34, _ => exact (at34 a b).trans (isZ a b)
  | 35, _ => exact (at35 a b).trans (isZ a b)
  | 36, _ => exact (at36 a b).trans (isZ a b)
  | 37, _ => exact (at37 a b).trans (isZ a b)
  | 38, _ => exact (at38 a b).trans (isZ a b)
  | 39, _ => exact (at39 a b).trans (isZ a b)
  | 40, _ => exact (at40 a b).trans (isZ a b)
  | 41, _ => exact (at41 a b).trans (isZ a b)
  | 42, _ => exact (at42 a b).trans (isZ a b)
  | 43, _ => exact (at43 a b).trans (isZ a b)
  | 44, _ => exact (at44 a b).trans (isZ a b)
  | 45, _ => exact (at45 a b).trans (isZ a b)
  | 46, _ => exact (at46 a b).trans (isZ a b)
  | 47, _ => exact (at47 a b).trans (isZ a b)
  | 48, _ => exact (at48 a b).trans (isZ a b)
  | 49, _ => exact (at49 a b).trans (isZ a b)
  | 50, _ => exact (at50 a b).trans (isZ a b)
  | 51, _ => exact (at51 a b).trans (isZ a b)
  | 52, _ => exact (at52 a b).trans (isZ a b)
  | 53, _ => exact (at53 a b).trans (isZ a b)
  | 54, _ => exact (at54 a b).trans (isZ a b)
  | 55, _ => exact (at55 a b).trans (isZ a b)
  | 56, _ => exact (at56 a b).trans (isZ a b)
  | 57, _ => exact (at57 a b).trans (isZ a b)
  | 58, _ => exact (at58 a b).trans (isZ a b)
  | 59, _ => exact (at59 a b).trans (isZ a b)
  | 60, _ => exact (at60 a b).trans (isZ a b)
  | 61, _ => exact (at61 a b).trans (isZ a b)
  | 62, _ => exact (at62 a b).trans (isZ a b)
  | 63, _ => exact (at63 a b).trans (isZ a b)
  | 64, _ => exact (at64 a b).trans (isZ a b)
  | 65, _ => exact (at65 a b).trans (isZ a b)
  | 66, _ => exact (at66 a b).trans (isZ a b)
  | 67, _ => exact (at67 a b).trans (isZ a b)
  | 68, _ => exact (at68 a b).trans (isZ a b)
  | 69, _ => exact (at69 a b).trans (isZ a b)
  | 70, _ => exact (at70 a b).trans (isZ a b)
  | 71, _ => exact (at71 a b).trans (isZ a b)
  | 72, _ => exact (at72 a b).trans (isZ a b)
  | 73, _ => exact (at73 a b).trans (isZ a b)
  | 74, _ => exact (at74 a b).trans (isZ a b)
  | 75, _ => exact (at75 a b).trans (isZ a b)
  | 76, _ => exact (at76 a b).trans (is76 ha hb)
  | 77, _ => exact (at77 a b).trans (is77 ha hb)
  | 78, _ => exact (at78 a b).trans (is77 ha hb)
  | 79, _ => exact (at79 a b).trans (is79 ha hb)
  | 80, _ => exact (at80 a b).trans (is80 ha hb)
  | 81, _ => exact (at81 a b).trans (is81 ha hb)
  | 82, _ => exact (at82 a b).trans (is82 ha hb)
  | 83, _ => exact (at83 a b).trans (is83 ha hb)
  | 84, _ => exact (at84 a b).trans (is84 ha hb)
  | 85, _ => exact (at85 a b).trans (is85 ha hb)
  | 86, _ => exact (at86 a b).trans (is86 ha hb)
  | 87, _ => exact (at87 a b).trans (isZ a b)
  | 88, _ => exact (at88 a b).trans (is88 ha hb)
  | 89, _ => exact (at89 a b).trans (is88 ha hb)
  | 90, _ => exact (at90 a b).trans (is90 ha hb)
  | 91, _ => exact (at91 a b).trans (is91 ha hb)
  | 92, _ => exact (at92 a b).trans (is92 ha hb)
  | 93, _ => exact (at93 a b).trans (is93 ha hb)
  | 94, _ => exact (at94 a b).trans (is94 ha hb)
  | 95, _ => exact (at95 a b).trans (is95 ha hb)
  | 96, _ => exact (at96 a b).trans (is96 ha hb)
  | 97, _ => exact (at97 a b).trans (is97 ha hb)
  | n + 98, h => omega

theorem sums (o a b : Int) (wo : (Lit.int .i64 o).wf = true) (wa : (Lit.int .u64 a).wf = true) (wb : (Lit.int .u64 b).wf = true) :
    ∃ c : Bool, (call Try.prog cx_rnew 400 13 [.int .i64 (.sym o), .int .u64 (.sym a), .int .u64 (.sym b)] []).pick.map (·.1) = some (.val (.bool (.sym c))) ∧ c = true :=
  ⟨_, route_pick1 (road o a b) rfl, law wo wa wb⟩

set_option maxRecDepth 100000 in
set_option maxHeartbeats 4000000 in
theorem run : ∀ vs, ArgsOk [.one (.int .i64), .one (.int .u64), .one (.int .u64)] vs → ∀ w, Calls Try.prog 13 vs.toArray w fun e w' => e = .returned (.bool true) ∧ Below w.heap.size w w' := by
  intro vs h w
  obtain ⟨_, _, rfl, ⟨o, rfl, wo⟩, _, _, rfl, ⟨a, rfl, wa⟩, _, _, rfl, ⟨b, rfl, wb⟩, rfl⟩ := h
  obtain ⟨c, k1, k2⟩ := sums o a b wo wa wb
  have k3 := (rfl : List.map absV [.int .i64 o, .int .u64 a, .int .u64 b] = [.int .i64 (.sym o), .int .u64 (.sym a), .int .u64 (.sym b)])
  have k4 := law_true2 cx_rnew_ok k3 k1 k2 w
  exact k4

set_option maxRecDepth 100000 in
theorem lifted (os : Os) (started : os.Started) (H : Type) (enc : TypeId × Value → H) :
    ReturnsInHanded {} Try.checked os 13 .any (Rows.amoAllSpec.pre6 enc Try.prog Try.f13 Rows.amoAllRow.domain false) (Rows.amoAllSpec.post enc Try.prog Try.f13 false true false false) := by
  refine returnsInHanded_of_change (C := Try.checked) own started (by kernel_rfl) Try.func13
    (ChangeSpec.witness6 (enc := enc) (C := Try.checked) false ⟨#[], #[.int .i64 0, .int .u64 0, .int .u64 0], []⟩ 8 (by kernel_rfl) (by kernel_rfl) (by kernel_rfl) (by kernel_rfl)) ?_
  intro W base args ds gs before hval hW _ _
  exact lifted_plain (P := Try.prog) (f := 13) (fn := Try.f13) (s := Rows.amoAllSpec) (tb := 4) rfl
    (fun ds h => by
      match ds, h with
      | [d1, d2, d3], _ => rfl)
    (by kernel_rfl) rfl (by kernel_rfl) run W base args ds gs before hval hW

theorem over : Rows.amoAllRow.holds Try.pinned (OpenSpec.ofChange Rows.amoAllSpec) :=
  OpenClaim.holds_of_wide 13 Try.f13 rfl rfl rfl rfl rfl rfl rfl ⟨rfl, rfl, rfl, rfl, rfl⟩ rfl rfl rfl rfl rfl (by kernel_rfl) Try.func13 (by kernel_rfl)
    (of_decide_eq_true (by kernel_rfl)) (by unfold Func.isWrapper; first | (rw [if_pos (by decide +kernel)]; kernel_rfl) | (rw [if_neg (by decide +kernel)]; exact ⟨rfl, rfl⟩))
    (fun os started H enc _ => lifted os started H enc)

/-- The statement. -/
theorem proved : Rows.AmoAllSaid :=
  over
#print axioms proved
end Go.Proofs.Ytgljicadcegilaa.AmoAll
