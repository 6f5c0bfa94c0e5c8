/- The statement 'AmoValues': what stands in memory is one of both numbers where the smaller, or the greater, is kept; and which does not matter. Conditions: none. -/
import Derived.Test.YtgljicadcegilaaWords
import Derived.Test.YtgljicadcegilaaCxn
namespace Go.Proofs.Ytgljicadcegilaa.AmoValues
open Go.RowKit Go.WideShapes Go.ChangeShapes Go.ChangeAt Ev
set_option linter.unusedVariables false
set_option linter.unusedSimpArgs false

def n0 (p a b x y : Int) : Int := (cond (litCmp .leq p 0) 0 (cond (litCmp .leq p 4) 1 (cond (litCmp .leq p 10) 2 (cond (litCmp .leq p 17) 3 (cond (litCmp .leq p 21) 4 (cond (litCmp .leq p 30) 5 (cond (litCmp .leq p 40) 6 (cond (litCmp .leq p 44) 7 (cond (litCmp .leq p 49) 8 (cond (litCmp .leq p 57) 9 (cond (litCmp .leq p 62) 10 (cond (litCmp .leq p 69) 11 (cond (litCmp .leq p 75) 12 (cond (litCmp .leq p 86) 13 (cond (litCmp .leq p 97) 14 (-1))))))))))))))))
def n1 (p a b x y : Int) : Int := (cond (litCmp .gtr 0 (n0 p a b x y)) 0 (n0 p a b x y))
def n2 (p a b x y : Int) : Bool := (litCmp .eql (n1 p a b x y) 13)
def n3 (p a b x y : Int) : Bool := (cond (litCmp .eql (litBin .add .i64 p 11) 88) (litCmp .eql (litBin .add .i64 p 11) 88) (litCmp .eql (litBin .add .i64 p 11) 89))
def n4 (p a b x y : Int) : Int := (litBin .add .u64 (litBin .rem .u64 b 4294967296) (litBin .shl .u64 (IntKind.wrap .u64 y) 32))
def n5 (p a b x y : Int) : Int := (IntKind.wrap .u64 (litBin .shr .i64 (IntKind.wrap .i64 (litBin .shl .u64 (n4 p a b x y) 32)) 32))
def n6 (p a b x y : Int) : Int := (litBin .add .u64 (litBin .rem .u64 a 4294967296) (litBin .shl .u64 (IntKind.wrap .u64 x) 32))
def n7 (p a b x y : Int) : Int := (IntKind.wrap .u64 (litBin .shr .i64 (IntKind.wrap .i64 (litBin .shl .u64 (n6 p a b x y) 32)) 32))
def n8 (p a b x y : Int) : Int := (IntKind.wrap .i64 (n5 p a b x y))
def n9 (p a b x y : Int) : Int := (IntKind.wrap .i64 (n7 p a b x y))
def n10 (p a b x y : Int) : Bool := (litCmp .eql (n1 p a b x y) 14)
def n11 (p a b x y : Int) : Bool := (cond (litCmp .eql p 88) (litCmp .eql p 88) (litCmp .eql p 89))
def n12 (p a b x y : Int) : Int := (IntKind.wrap .i64 (n4 p a b x y))
def n13 (p a b x y : Int) : Int := (IntKind.wrap .i64 (n6 p a b x y))
def n14 (p a b x y : Int) : Int := (IntKind.wrap .u64 (litBin .shr .i64 (IntKind.wrap .i64 (litBin .shl .u64 b 32)) 32))
def n15 (p a b x y : Int) : Int := (IntKind.wrap .u64 (litBin .shr .i64 (IntKind.wrap .i64 (litBin .shl .u64 a 32)) 32))
def n16 (p a b x y : Int) : Int := (IntKind.wrap .i64 (n14 p a b x y))
def n17 (p a b x y : Int) : Int := (IntKind.wrap .i64 (n15 p a b x y))
def n18 (p a b x y : Int) : Int := (cond (n2 p a b x y) (IntKind.wrap .u64 (IntKind.wrap .u32 (cond (n3 p a b x y) (n14 p a b x y) (cond (litCmp .eql (litBin .add .i64 p 11) 90) (litBin .add .u64 (n15 p a b x y) (n14 p a b x y)) (cond (litCmp .eql (litBin .add .i64 p 11) 91) (litBin .xor .u64 (n15 p a b x y) (n14 p a b x y)) (cond (litCmp .eql (litBin .add .i64 p 11) 92) (litBin .and .u64 (n15 p a b x y) (n14 p a b x y)) (cond (litCmp .eql (litBin .add .i64 p 11) 93) (litBin .or .u64 (n15 p a b x y) (n14 p a b x y)) (cond (litCmp .eql (litBin .add .i64 p 11) 94) (IntKind.wrap .u64 (cond (litCmp .lss (n16 p a b x y) (n17 p a b x y)) (n16 p a b x y) (n17 p a b x y))) (cond (litCmp .eql (litBin .add .i64 p 11) 95) (IntKind.wrap .u64 (cond (litCmp .gtr (n16 p a b x y) (n17 p a b x y)) (n16 p a b x y) (n17 p a b x y))) (cond (litCmp .eql (litBin .add .i64 p 11) 96) (cond (litCmp .lss (n14 p a b x y) (n15 p a b x y)) (n14 p a b x y) (n15 p a b x y)) (cond (litCmp .eql (litBin .add .i64 p 11) 97) (cond (litCmp .gtr (n14 p a b x y) (n15 p a b x y)) (n14 p a b x y) (n15 p a b x y)) (n15 p a b x y)))))))))))) (cond (n10 p a b x y) (cond (n11 p a b x y) b (cond (litCmp .eql p 90) (litBin .add .u64 a b) (cond (litCmp .eql p 91) (litBin .xor .u64 a b) (cond (litCmp .eql p 92) (litBin .and .u64 a b) (cond (litCmp .eql p 93) (litBin .or .u64 a b) (cond (litCmp .eql p 94) (IntKind.wrap .u64 (cond (litCmp .lss (IntKind.wrap .i64 b) (IntKind.wrap .i64 a)) (IntKind.wrap .i64 b) (IntKind.wrap .i64 a))) (cond (litCmp .eql p 95) (IntKind.wrap .u64 (cond (litCmp .gtr (IntKind.wrap .i64 b) (IntKind.wrap .i64 a)) (IntKind.wrap .i64 b) (IntKind.wrap .i64 a))) (cond (litCmp .eql p 96) (cond (litCmp .lss b a) b a) (cond (litCmp .eql p 97) (cond (litCmp .gtr b a) b a) a))))))))) a))
def n19 (p a b x y : Int) : Bool := (litCmp .geq (litBin .rem .i64 (litBin .sub .i64 p 76) 11) 7)
def n20 (p a b x y : Int) : Bool := (litCmp .eql (litBin .rem .i64 (litBin .sub .i64 p 76) 11) 0)
def n21 (p a b x y : Int) : Int := (litBin .rem .u64 (n18 p a b x y) 4294967296)
def n22 (p a b x y : Int) : Bool := (cond (n2 p a b x y) (litCmp .eql (n21 p a b x y) (litBin .rem .u64 a 4294967296)) false)
def n23 (p a b x y : Int) : Bool := (litCmp .eql (n18 p a b x y) a)
def n24 (p a b x y : Int) : Bool := (litCmp .leq (litBin .rem .i64 (litBin .sub .i64 p 76) 11) 2)
def n25 (p a b x y : Int) : Bool := (cond (n2 p a b x y) (litCmp .eql (IntKind.wrap .u64 (IntKind.wrap .u32 (cond (n3 p a b x y) (n15 p a b x y) (cond (litCmp .eql (litBin .add .i64 p 11) 90) (litBin .add .u64 (n14 p a b x y) (n15 p a b x y)) (cond (litCmp .eql (litBin .add .i64 p 11) 91) (litBin .xor .u64 (n14 p a b x y) (n15 p a b x y)) (cond (litCmp .eql (litBin .add .i64 p 11) 92) (litBin .and .u64 (n14 p a b x y) (n15 p a b x y)) (cond (litCmp .eql (litBin .add .i64 p 11) 93) (litBin .or .u64 (n14 p a b x y) (n15 p a b x y)) (cond (litCmp .eql (litBin .add .i64 p 11) 94) (IntKind.wrap .u64 (cond (litCmp .lss (n17 p a b x y) (n16 p a b x y)) (n17 p a b x y) (n16 p a b x y))) (cond (litCmp .eql (litBin .add .i64 p 11) 95) (IntKind.wrap .u64 (cond (litCmp .gtr (n17 p a b x y) (n16 p a b x y)) (n17 p a b x y) (n16 p a b x y))) (cond (litCmp .eql (litBin .add .i64 p 11) 96) (cond (litCmp .lss (n15 p a b x y) (n14 p a b x y)) (n15 p a b x y) (n14 p a b x y)) (cond (litCmp .eql (litBin .add .i64 p 11) 97) (cond (litCmp .gtr (n15 p a b x y) (n14 p a b x y)) (n15 p a b x y) (n14 p a b x y)) (n14 p a b x y)))))))))))) (n18 p a b x y)) (cond (n10 p a b x y) (litCmp .eql (cond (n11 p a b x y) a (cond (litCmp .eql p 90) (litBin .add .u64 b a) (cond (litCmp .eql p 91) (litBin .xor .u64 b a) (cond (litCmp .eql p 92) (litBin .and .u64 b a) (cond (litCmp .eql p 93) (litBin .or .u64 b a) (cond (litCmp .eql p 94) (IntKind.wrap .u64 (cond (litCmp .lss (IntKind.wrap .i64 a) (IntKind.wrap .i64 b)) (IntKind.wrap .i64 a) (IntKind.wrap .i64 b))) (cond (litCmp .eql p 95) (IntKind.wrap .u64 (cond (litCmp .gtr (IntKind.wrap .i64 a) (IntKind.wrap .i64 b)) (IntKind.wrap .i64 a) (IntKind.wrap .i64 b))) (cond (litCmp .eql p 96) (cond (litCmp .lss a b) a b) (cond (litCmp .eql p 97) (cond (litCmp .gtr a b) a b) b))))))))) (n18 p a b x y)) (litCmp .eql b (n18 p a b x y))))
def n26 (p a b x y : Int) : Bool := (cond (n2 p a b x y) (litCmp .eql (n21 p a b x y) a) false)
def V (p a b x y : Int) : Bool := (cond (n2 p a b x y) (cond (cond (litCmp .gtr (litBin .rem .i64 (litBin .sub .i64 p 76) 11) 0) (cond (litCmp .neq (cond (n2 p a b x y) (IntKind.wrap .u64 (IntKind.wrap .u32 (cond (n3 p a b x y) (n5 p a b x y) (cond (litCmp .eql (litBin .add .i64 p 11) 90) (litBin .add .u64 (n7 p a b x y) (n5 p a b x y)) (cond (litCmp .eql (litBin .add .i64 p 11) 91) (litBin .xor .u64 (n7 p a b x y) (n5 p a b x y)) (cond (litCmp .eql (litBin .add .i64 p 11) 92) (litBin .and .u64 (n7 p a b x y) (n5 p a b x y)) (cond (litCmp .eql (litBin .add .i64 p 11) 93) (litBin .or .u64 (n7 p a b x y) (n5 p a b x y)) (cond (litCmp .eql (litBin .add .i64 p 11) 94) (IntKind.wrap .u64 (cond (litCmp .lss (n8 p a b x y) (n9 p a b x y)) (n8 p a b x y) (n9 p a b x y))) (cond (litCmp .eql (litBin .add .i64 p 11) 95) (IntKind.wrap .u64 (cond (litCmp .gtr (n8 p a b x y) (n9 p a b x y)) (n8 p a b x y) (n9 p a b x y))) (cond (litCmp .eql (litBin .add .i64 p 11) 96) (cond (litCmp .lss (n5 p a b x y) (n7 p a b x y)) (n5 p a b x y) (n7 p a b x y)) (cond (litCmp .eql (litBin .add .i64 p 11) 97) (cond (litCmp .gtr (n5 p a b x y) (n7 p a b x y)) (n5 p a b x y) (n7 p a b x y)) (n7 p a b x y)))))))))))) (cond (n10 p a b x y) (cond (n11 p a b x y) (n4 p a b x y) (cond (litCmp .eql p 90) (litBin .add .u64 (n6 p a b x y) (n4 p a b x y)) (cond (litCmp .eql p 91) (litBin .xor .u64 (n6 p a b x y) (n4 p a b x y)) (cond (litCmp .eql p 92) (litBin .and .u64 (n6 p a b x y) (n4 p a b x y)) (cond (litCmp .eql p 93) (litBin .or .u64 (n6 p a b x y) (n4 p a b x y)) (cond (litCmp .eql p 94) (IntKind.wrap .u64 (cond (litCmp .lss (n12 p a b x y) (n13 p a b x y)) (n12 p a b x y) (n13 p a b x y))) (cond (litCmp .eql p 95) (IntKind.wrap .u64 (cond (litCmp .gtr (n12 p a b x y) (n13 p a b x y)) (n12 p a b x y) (n13 p a b x y))) (cond (litCmp .eql p 96) (cond (litCmp .lss (n4 p a b x y) (n6 p a b x y)) (n4 p a b x y) (n6 p a b x y)) (cond (litCmp .eql p 97) (cond (litCmp .gtr (n4 p a b x y) (n6 p a b x y)) (n4 p a b x y) (n6 p a b x y)) (n6 p a b x y)))))))))) (n6 p a b x y))) (n18 p a b x y)) true (litCmp .geq (n18 p a b x y) 4294967296)) false) false (cond (cond (n19 p a b x y) (cond (litCmp .neq (n18 p a b x y) (litBin .rem .u64 a 4294967296)) (litCmp .neq (n18 p a b x y) (litBin .rem .u64 b 4294967296)) false) false) false (cond (n20 p a b x y) (cond (n2 p a b x y) (n22 p a b x y) (cond (n10 p a b x y) (cond (n23 p a b x y) true (n22 p a b x y)) (n22 p a b x y))) (cond (n24 p a b x y) (litCmp .eql (n18 p a b x y) (litBin .rem .u64 b 4294967296)) (n25 p a b x y))))) (cond (cond (n19 p a b x y) (cond (litCmp .neq (n18 p a b x y) a) (litCmp .neq (n18 p a b x y) b) false) false) false (cond (n20 p a b x y) (cond (n2 p a b x y) (n26 p a b x y) (cond (n10 p a b x y) (cond (n23 p a b x y) true (n26 p a b x y)) (n26 p a b x y))) (cond (n24 p a b x y) (litCmp .eql (n18 p a b x y) b) (n25 p a b x y)))))
def F76 (a b x y : Int) : Bool := (litCmp .eql (litBin .rem .u64 (IntKind.wrap .u64 (IntKind.wrap .u32 (IntKind.wrap .u64 (litBin .shr .i64 (IntKind.wrap .i64 (litBin .shl .u64 a 32)) 32)))) 4294967296) (litBin .rem .u64 a 4294967296))
def F77 (a b x y : Int) : Bool := (cond (cond (litCmp .neq (IntKind.wrap .u64 (IntKind.wrap .u32 (IntKind.wrap .u64 (litBin .shr .i64 (IntKind.wrap .i64 (litBin .shl .u64 (litBin .add .u64 (litBin .rem .u64 b 4294967296) (litBin .shl .u64 (IntKind.wrap .u64 y) 32)) 32)) 32)))) (IntKind.wrap .u64 (IntKind.wrap .u32 (IntKind.wrap .u64 (litBin .shr .i64 (IntKind.wrap .i64 (litBin .shl .u64 b 32)) 32))))) true (litCmp .geq (IntKind.wrap .u64 (IntKind.wrap .u32 (IntKind.wrap .u64 (litBin .shr .i64 (IntKind.wrap .i64 (litBin .shl .u64 b 32)) 32)))) 4294967296)) false (litCmp .eql (IntKind.wrap .u64 (IntKind.wrap .u32 (IntKind.wrap .u64 (litBin .shr .i64 (IntKind.wrap .i64 (litBin .shl .u64 b 32)) 32)))) (litBin .rem .u64 b 4294967296)))
def F79 (a b x y : Int) : Bool := (cond (cond (litCmp .neq (IntKind.wrap .u64 (IntKind.wrap .u32 (litBin .add .u64 (IntKind.wrap .u64 (litBin .shr .i64 (IntKind.wrap .i64 (litBin .shl .u64 (litBin .add .u64 (litBin .rem .u64 a 4294967296) (litBin .shl .u64 (IntKind.wrap .u64 x) 32)) 32)) 32)) (IntKind.wrap .u64 (litBin .shr .i64 (IntKind.wrap .i64 (litBin .shl .u64 (litBin .add .u64 (litBin .rem .u64 b 4294967296) (litBin .shl .u64 (IntKind.wrap .u64 y) 32)) 32)) 32))))) (IntKind.wrap .u64 (IntKind.wrap .u32 (litBin .add .u64 (IntKind.wrap .u64 (litBin .shr .i64 (IntKind.wrap .i64 (litBin .shl .u64 a 32)) 32)) (IntKind.wrap .u64 (litBin .shr .i64 (IntKind.wrap .i64 (litBin .shl .u64 b 32)) 32)))))) true (litCmp .geq (IntKind.wrap .u64 (IntKind.wrap .u32 (litBin .add .u64 (IntKind.wrap .u64 (litBin .shr .i64 (IntKind.wrap .i64 (litBin .shl .u64 a 32)) 32)) (IntKind.wrap .u64 (litBin .shr .i64 (IntKind.wrap .i64 (litBin .shl .u64 b 32)) 32))))) 4294967296)) false (litCmp .eql (IntKind.wrap .u64 (IntKind.wrap .u32 (litBin .add .u64 (IntKind.wrap .u64 (litBin .shr .i64 (IntKind.wrap .i64 (litBin .shl .u64 b 32)) 32)) (IntKind.wrap .u64 (litBin .shr .i64 (IntKind.wrap .i64 (litBin .shl .u64 a 32)) 32))))) (IntKind.wrap .u64 (IntKind.wrap .u32 (litBin .add .u64 (IntKind.wrap .u64 (litBin .shr .i64 (IntKind.wrap .i64 (litBin .shl .u64 a 32)) 32)) (IntKind.wrap .u64 (litBin .shr .i64 (IntKind.wrap .i64 (litBin .shl .u64 b 32)) 32)))))))
def F80 (a b x y : Int) : Bool := (cond (cond (litCmp .neq (IntKind.wrap .u64 (IntKind.wrap .u32 (litBin .xor .u64 (IntKind.wrap .u64 (litBin .shr .i64 (IntKind.wrap .i64 (litBin .shl .u64 (litBin .add .u64 (litBin .rem .u64 a 4294967296) (litBin .shl .u64 (IntKind.wrap .u64 x) 32)) 32)) 32)) (IntKind.wrap .u64 (litBin .shr .i64 (IntKind.wrap .i64 (litBin .shl .u64 (litBin .add .u64 (litBin .rem .u64 b 4294967296) (litBin .shl .u64 (IntKind.wrap .u64 y) 32)) 32)) 32))))) (IntKind.wrap .u64 (IntKind.wrap .u32 (litBin .xor .u64 (IntKind.wrap .u64 (litBin .shr .i64 (IntKind.wrap .i64 (litBin .shl .u64 a 32)) 32)) (IntKind.wrap .u64 (litBin .shr .i64 (IntKind.wrap .i64 (litBin .shl .u64 b 32)) 32)))))) true (litCmp .geq (IntKind.wrap .u64 (IntKind.wrap .u32 (litBin .xor .u64 (IntKind.wrap .u64 (litBin .shr .i64 (IntKind.wrap .i64 (litBin .shl .u64 a 32)) 32)) (IntKind.wrap .u64 (litBin .shr .i64 (IntKind.wrap .i64 (litBin .shl .u64 b 32)) 32))))) 4294967296)) false (litCmp .eql (IntKind.wrap .u64 (IntKind.wrap .u32 (litBin .xor .u64 (IntKind.wrap .u64 (litBin .shr .i64 (IntKind.wrap .i64 (litBin .shl .u64 b 32)) 32)) (IntKind.wrap .u64 (litBin .shr .i64 (IntKind.wrap .i64 (litBin .shl .u64 a 32)) 32))))) (IntKind.wrap .u64 (IntKind.wrap .u32 (litBin .xor .u64 (IntKind.wrap .u64 (litBin .shr .i64 (IntKind.wrap .i64 (litBin .shl .u64 a 32)) 32)) (IntKind.wrap .u64 (litBin .shr .i64 (IntKind.wrap .i64 (litBin .shl .u64 b 32)) 32)))))))
def F81 (a b x y : Int) : Bool := (cond (cond (litCmp .neq (IntKind.wrap .u64 (IntKind.wrap .u32 (litBin .and .u64 (IntKind.wrap .u64 (litBin .shr .i64 (IntKind.wrap .i64 (litBin .shl .u64 (litBin .add .u64 (litBin .rem .u64 a 4294967296) (litBin .shl .u64 (IntKind.wrap .u64 x) 32)) 32)) 32)) (IntKind.wrap .u64 (litBin .shr .i64 (IntKind.wrap .i64 (litBin .shl .u64 (litBin .add .u64 (litBin .rem .u64 b 4294967296) (litBin .shl .u64 (IntKind.wrap .u64 y) 32)) 32)) 32))))) (IntKind.wrap .u64 (IntKind.wrap .u32 (litBin .and .u64 (IntKind.wrap .u64 (litBin .shr .i64 (IntKind.wrap .i64 (litBin .shl .u64 a 32)) 32)) (IntKind.wrap .u64 (litBin .shr .i64 (IntKind.wrap .i64 (litBin .shl .u64 b 32)) 32)))))) true (litCmp .geq (IntKind.wrap .u64 (IntKind.wrap .u32 (litBin .and .u64 (IntKind.wrap .u64 (litBin .shr .i64 (IntKind.wrap .i64 (litBin .shl .u64 a 32)) 32)) (IntKind.wrap .u64 (litBin .shr .i64 (IntKind.wrap .i64 (litBin .shl .u64 b 32)) 32))))) 4294967296)) false (litCmp .eql (IntKind.wrap .u64 (IntKind.wrap .u32 (litBin .and .u64 (IntKind.wrap .u64 (litBin .shr .i64 (IntKind.wrap .i64 (litBin .shl .u64 b 32)) 32)) (IntKind.wrap .u64 (litBin .shr .i64 (IntKind.wrap .i64 (litBin .shl .u64 a 32)) 32))))) (IntKind.wrap .u64 (IntKind.wrap .u32 (litBin .and .u64 (IntKind.wrap .u64 (litBin .shr .i64 (IntKind.wrap .i64 (litBin .shl .u64 a 32)) 32)) (IntKind.wrap .u64 (litBin .shr .i64 (IntKind.wrap .i64 (litBin .shl .u64 b 32)) 32)))))))
def F82 (a b x y : Int) : Bool := (cond (cond (litCmp .neq (IntKind.wrap .u64 (IntKind.wrap .u32 (litBin .or .u64 (IntKind.wrap .u64 (litBin .shr .i64 (IntKind.wrap .i64 (litBin .shl .u64 (litBin .add .u64 (litBin .rem .u64 a 4294967296) (litBin .shl .u64 (IntKind.wrap .u64 x) 32)) 32)) 32)) (IntKind.wrap .u64 (litBin .shr .i64 (IntKind.wrap .i64 (litBin .shl .u64 (litBin .add .u64 (litBin .rem .u64 b 4294967296) (litBin .shl .u64 (IntKind.wrap .u64 y) 32)) 32)) 32))))) (IntKind.wrap .u64 (IntKind.wrap .u32 (litBin .or .u64 (IntKind.wrap .u64 (litBin .shr .i64 (IntKind.wrap .i64 (litBin .shl .u64 a 32)) 32)) (IntKind.wrap .u64 (litBin .shr .i64 (IntKind.wrap .i64 (litBin .shl .u64 b 32)) 32)))))) true (litCmp .geq (IntKind.wrap .u64 (IntKind.wrap .u32 (litBin .or .u64 (IntKind.wrap .u64 (litBin .shr .i64 (IntKind.wrap .i64 (litBin .shl .u64 a 32)) 32)) (IntKind.wrap .u64 (litBin .shr .i64 (IntKind.wrap .i64 (litBin .shl .u64 b 32)) 32))))) 4294967296)) false (litCmp .eql (IntKind.wrap .u64 (IntKind.wrap .u32 (litBin .or .u64 (IntKind.wrap .u64 (litBin .shr .i64 (IntKind.wrap .i64 (litBin .shl .u64 b 32)) 32)) (IntKind.wrap .u64 (litBin .shr .i64 (IntKind.wrap .i64 (litBin .shl .u64 a 32)) 32))))) (IntKind.wrap .u64 (IntKind.wrap .u32 (litBin .or .u64 (IntKind.wrap .u64 (litBin .shr .i64 (IntKind.wrap .i64 (litBin .shl .u64 a 32)) 32)) (IntKind.wrap .u64 (litBin .shr .i64 (IntKind.wrap .i64 (litBin .shl .u64 b 32)) 32)))))))
def F83 (a b x y : Int) : Bool := (cond (cond (litCmp .neq (IntKind.wrap .u64 (IntKind.wrap .u32 (IntKind.wrap .u64 (cond (litCmp .lss (IntKind.wrap .i64 (IntKind.wrap .u64 (litBin .shr .i64 (IntKind.wrap .i64 (litBin .shl .u64 (litBin .add .u64 (litBin .rem .u64 b 4294967296) (litBin .shl .u64 (IntKind.wrap .u64 y) 32)) 32)) 32))) (IntKind.wrap .i64 (IntKind.wrap .u64 (litBin .shr .i64 (IntKind.wrap .i64 (litBin .shl .u64 (litBin .add .u64 (litBin .rem .u64 a 4294967296) (litBin .shl .u64 (IntKind.wrap .u64 x) 32)) 32)) 32)))) (IntKind.wrap .i64 (IntKind.wrap .u64 (litBin .shr .i64 (IntKind.wrap .i64 (litBin .shl .u64 (litBin .add .u64 (litBin .rem .u64 b 4294967296) (litBin .shl .u64 (IntKind.wrap .u64 y) 32)) 32)) 32))) (IntKind.wrap .i64 (IntKind.wrap .u64 (litBin .shr .i64 (IntKind.wrap .i64 (litBin .shl .u64 (litBin .add .u64 (litBin .rem .u64 a 4294967296) (litBin .shl .u64 (IntKind.wrap .u64 x) 32)) 32)) 32))))))) (IntKind.wrap .u64 (IntKind.wrap .u32 (IntKind.wrap .u64 (cond (litCmp .lss (IntKind.wrap .i64 (IntKind.wrap .u64 (litBin .shr .i64 (IntKind.wrap .i64 (litBin .shl .u64 b 32)) 32))) (IntKind.wrap .i64 (IntKind.wrap .u64 (litBin .shr .i64 (IntKind.wrap .i64 (litBin .shl .u64 a 32)) 32)))) (IntKind.wrap .i64 (IntKind.wrap .u64 (litBin .shr .i64 (IntKind.wrap .i64 (litBin .shl .u64 b 32)) 32))) (IntKind.wrap .i64 (IntKind.wrap .u64 (litBin .shr .i64 (IntKind.wrap .i64 (litBin .shl .u64 a 32)) 32)))))))) true (litCmp .geq (IntKind.wrap .u64 (IntKind.wrap .u32 (IntKind.wrap .u64 (cond (litCmp .lss (IntKind.wrap .i64 (IntKind.wrap .u64 (litBin .shr .i64 (IntKind.wrap .i64 (litBin .shl .u64 b 32)) 32))) (IntKind.wrap .i64 (IntKind.wrap .u64 (litBin .shr .i64 (IntKind.wrap .i64 (litBin .shl .u64 a 32)) 32)))) (IntKind.wrap .i64 (IntKind.wrap .u64 (litBin .shr .i64 (IntKind.wrap .i64 (litBin .shl .u64 b 32)) 32))) (IntKind.wrap .i64 (IntKind.wrap .u64 (litBin .shr .i64 (IntKind.wrap .i64 (litBin .shl .u64 a 32)) 32))))))) 4294967296)) false (cond (cond (litCmp .neq (IntKind.wrap .u64 (IntKind.wrap .u32 (IntKind.wrap .u64 (cond (litCmp .lss (IntKind.wrap .i64 (IntKind.wrap .u64 (litBin .shr .i64 (IntKind.wrap .i64 (litBin .shl .u64 b 32)) 32))) (IntKind.wrap .i64 (IntKind.wrap .u64 (litBin .shr .i64 (IntKind.wrap .i64 (litBin .shl .u64 a 32)) 32)))) (IntKind.wrap .i64 (IntKind.wrap .u64 (litBin .shr .i64 (IntKind.wrap .i64 (litBin .shl .u64 b 32)) 32))) (IntKind.wrap .i64 (IntKind.wrap .u64 (litBin .shr .i64 (IntKind.wrap .i64 (litBin .shl .u64 a 32)) 32))))))) (litBin .rem .u64 a 4294967296)) (litCmp .neq (IntKind.wrap .u64 (IntKind.wrap .u32 (IntKind.wrap .u64 (cond (litCmp .lss (IntKind.wrap .i64 (IntKind.wrap .u64 (litBin .shr .i64 (IntKind.wrap .i64 (litBin .shl .u64 b 32)) 32))) (IntKind.wrap .i64 (IntKind.wrap .u64 (litBin .shr .i64 (IntKind.wrap .i64 (litBin .shl .u64 a 32)) 32)))) (IntKind.wrap .i64 (IntKind.wrap .u64 (litBin .shr .i64 (IntKind.wrap .i64 (litBin .shl .u64 b 32)) 32))) (IntKind.wrap .i64 (IntKind.wrap .u64 (litBin .shr .i64 (IntKind.wrap .i64 (litBin .shl .u64 a 32)) 32))))))) (litBin .rem .u64 b 4294967296)) false) false (litCmp .eql (IntKind.wrap .u64 (IntKind.wrap .u32 (IntKind.wrap .u64 (cond (litCmp .lss (IntKind.wrap .i64 (IntKind.wrap .u64 (litBin .shr .i64 (IntKind.wrap .i64 (litBin .shl .u64 a 32)) 32))) (IntKind.wrap .i64 (IntKind.wrap .u64 (litBin .shr .i64 (IntKind.wrap .i64 (litBin .shl .u64 b 32)) 32)))) (IntKind.wrap .i64 (IntKind.wrap .u64 (litBin .shr .i64 (IntKind.wrap .i64 (litBin .shl .u64 a 32)) 32))) (IntKind.wrap .i64 (IntKind.wrap .u64 (litBin .shr .i64 (IntKind.wrap .i64 (litBin .shl .u64 b 32)) 32))))))) (IntKind.wrap .u64 (IntKind.wrap .u32 (IntKind.wrap .u64 (cond (litCmp .lss (IntKind.wrap .i64 (IntKind.wrap .u64 (litBin .shr .i64 (IntKind.wrap .i64 (litBin .shl .u64 b 32)) 32))) (IntKind.wrap .i64 (IntKind.wrap .u64 (litBin .shr .i64 (IntKind.wrap .i64 (litBin .shl .u64 a 32)) 32)))) (IntKind.wrap .i64 (IntKind.wrap .u64 (litBin .shr .i64 (IntKind.wrap .i64 (litBin .shl .u64 b 32)) 32))) (IntKind.wrap .i64 (IntKind.wrap .u64 (litBin .shr .i64 (IntKind.wrap .i64 (litBin .shl .u64 a 32)) 32))))))))))
def F84 (a b x y : Int) : Bool := (cond (cond (litCmp .neq (IntKind.wrap .u64 (IntKind.wrap .u32 (IntKind.wrap .u64 (cond (litCmp .gtr (IntKind.wrap .i64 (IntKind.wrap .u64 (litBin .shr .i64 (IntKind.wrap .i64 (litBin .shl .u64 (litBin .add .u64 (litBin .rem .u64 b 4294967296) (litBin .shl .u64 (IntKind.wrap .u64 y) 32)) 32)) 32))) (IntKind.wrap .i64 (IntKind.wrap .u64 (litBin .shr .i64 (IntKind.wrap .i64 (litBin .shl .u64 (litBin .add .u64 (litBin .rem .u64 a 4294967296) (litBin .shl .u64 (IntKind.wrap .u64 x) 32)) 32)) 32)))) (IntKind.wrap .i64 (IntKind.wrap .u64 (litBin .shr .i64 (IntKind.wrap .i64 (litBin .shl .u64 (litBin .add .u64 (litBin .rem .u64 b 4294967296) (litBin .shl .u64 (IntKind.wrap .u64 y) 32)) 32)) 32))) (IntKind.wrap .i64 (IntKind.wrap .u64 (litBin .shr .i64 (IntKind.wrap .i64 (litBin .shl .u64 (litBin .add .u64 (litBin .rem .u64 a 4294967296) (litBin .shl .u64 (IntKind.wrap .u64 x) 32)) 32)) 32))))))) (IntKind.wrap .u64 (IntKind.wrap .u32 (IntKind.wrap .u64 (cond (litCmp .gtr (IntKind.wrap .i64 (IntKind.wrap .u64 (litBin .shr .i64 (IntKind.wrap .i64 (litBin .shl .u64 b 32)) 32))) (IntKind.wrap .i64 (IntKind.wrap .u64 (litBin .shr .i64 (IntKind.wrap .i64 (litBin .shl .u64 a 32)) 32)))) (IntKind.wrap .i64 (IntKind.wrap .u64 (litBin .shr .i64 (IntKind.wrap .i64 (litBin .shl .u64 b 32)) 32))) (IntKind.wrap .i64 (IntKind.wrap .u64 (litBin .shr .i64 (IntKind.wrap .i64 (litBin .shl .u64 a 32)) 32)))))))) true (litCmp .geq (IntKind.wrap .u64 (IntKind.wrap .u32 (IntKind.wrap .u64 (cond (litCmp .gtr (IntKind.wrap .i64 (IntKind.wrap .u64 (litBin .shr .i64 (IntKind.wrap .i64 (litBin .shl .u64 b 32)) 32))) (IntKind.wrap .i64 (IntKind.wrap .u64 (litBin .shr .i64 (IntKind.wrap .i64 (litBin .shl .u64 a 32)) 32)))) (IntKind.wrap .i64 (IntKind.wrap .u64 (litBin .shr .i64 (IntKind.wrap .i64 (litBin .shl .u64 b 32)) 32))) (IntKind.wrap .i64 (IntKind.wrap .u64 (litBin .shr .i64 (IntKind.wrap .i64 (litBin .shl .u64 a 32)) 32))))))) 4294967296)) false (cond (cond (litCmp .neq (IntKind.wrap .u64 (IntKind.wrap .u32 (IntKind.wrap .u64 (cond (litCmp .gtr (IntKind.wrap .i64 (IntKind.wrap .u64 (litBin .shr .i64 (IntKind.wrap .i64 (litBin .shl .u64 b 32)) 32))) (IntKind.wrap .i64 (IntKind.wrap .u64 (litBin .shr .i64 (IntKind.wrap .i64 (litBin .shl .u64 a 32)) 32)))) (IntKind.wrap .i64 (IntKind.wrap .u64 (litBin .shr .i64 (IntKind.wrap .i64 (litBin .shl .u64 b 32)) 32))) (IntKind.wrap .i64 (IntKind.wrap .u64 (litBin .shr .i64 (IntKind.wrap .i64 (litBin .shl .u64 a 32)) 32))))))) (litBin .rem .u64 a 4294967296)) (litCmp .neq (IntKind.wrap .u64 (IntKind.wrap .u32 (IntKind.wrap .u64 (cond (litCmp .gtr (IntKind.wrap .i64 (IntKind.wrap .u64 (litBin .shr .i64 (IntKind.wrap .i64 (litBin .shl .u64 b 32)) 32))) (IntKind.wrap .i64 (IntKind.wrap .u64 (litBin .shr .i64 (IntKind.wrap .i64 (litBin .shl .u64 a 32)) 32)))) (IntKind.wrap .i64 (IntKind.wrap .u64 (litBin .shr .i64 (IntKind.wrap .i64 (litBin .shl .u64 b 32)) 32))) (IntKind.wrap .i64 (IntKind.wrap .u64 (litBin .shr .i64 (IntKind.wrap .i64 (litBin .shl .u64 a 32)) 32))))))) (litBin .rem .u64 b 4294967296)) false) false (litCmp .eql (IntKind.wrap .u64 (IntKind.wrap .u32 (IntKind.wrap .u64 (cond (litCmp .gtr (IntKind.wrap .i64 (IntKind.wrap .u64 (litBin .shr .i64 (IntKind.wrap .i64 (litBin .shl .u64 a 32)) 32))) (IntKind.wrap .i64 (IntKind.wrap .u64 (litBin .shr .i64 (IntKind.wrap .i64 (litBin .shl .u64 b 32)) 32)))) (IntKind.wrap .i64 (IntKind.wrap .u64 (litBin .shr .i64 (IntKind.wrap .i64 (litBin .shl .u64 a 32)) 32))) (IntKind.wrap .i64 (IntKind.wrap .u64 (litBin .shr .i64 (IntKind.wrap .i64 (litBin .shl .u64 b 32)) 32))))))) (IntKind.wrap .u64 (IntKind.wrap .u32 (IntKind.wrap .u64 (cond (litCmp .gtr (IntKind.wrap .i64 (IntKind.wrap .u64 (litBin .shr .i64 (IntKind.wrap .i64 (litBin .shl .u64 b 32)) 32))) (IntKind.wrap .i64 (IntKind.wrap .u64 (litBin .shr .i64 (IntKind.wrap .i64 (litBin .shl .u64 a 32)) 32)))) (IntKind.wrap .i64 (IntKind.wrap .u64 (litBin .shr .i64 (IntKind.wrap .i64 (litBin .shl .u64 b 32)) 32))) (IntKind.wrap .i64 (IntKind.wrap .u64 (litBin .shr .i64 (IntKind.wrap .i64 (litBin .shl .u64 a 32)) 32))))))))))
def F85 (a b x y : Int) : Bool := (cond (cond (litCmp .neq (IntKind.wrap .u64 (IntKind.wrap .u32 (cond (litCmp .lss (IntKind.wrap .u64 (litBin .shr .i64 (IntKind.wrap .i64 (litBin .shl .u64 (litBin .add .u64 (litBin .rem .u64 b 4294967296) (litBin .shl .u64 (IntKind.wrap .u64 y) 32)) 32)) 32)) (IntKind.wrap .u64 (litBin .shr .i64 (IntKind.wrap .i64 (litBin .shl .u64 (litBin .add .u64 (litBin .rem .u64 a 4294967296) (litBin .shl .u64 (IntKind.wrap .u64 x) 32)) 32)) 32))) (IntKind.wrap .u64 (litBin .shr .i64 (IntKind.wrap .i64 (litBin .shl .u64 (litBin .add .u64 (litBin .rem .u64 b 4294967296) (litBin .shl .u64 (IntKind.wrap .u64 y) 32)) 32)) 32)) (IntKind.wrap .u64 (litBin .shr .i64 (IntKind.wrap .i64 (litBin .shl .u64 (litBin .add .u64 (litBin .rem .u64 a 4294967296) (litBin .shl .u64 (IntKind.wrap .u64 x) 32)) 32)) 32))))) (IntKind.wrap .u64 (IntKind.wrap .u32 (cond (litCmp .lss (IntKind.wrap .u64 (litBin .shr .i64 (IntKind.wrap .i64 (litBin .shl .u64 b 32)) 32)) (IntKind.wrap .u64 (litBin .shr .i64 (IntKind.wrap .i64 (litBin .shl .u64 a 32)) 32))) (IntKind.wrap .u64 (litBin .shr .i64 (IntKind.wrap .i64 (litBin .shl .u64 b 32)) 32)) (IntKind.wrap .u64 (litBin .shr .i64 (IntKind.wrap .i64 (litBin .shl .u64 a 32)) 32)))))) true (litCmp .geq (IntKind.wrap .u64 (IntKind.wrap .u32 (cond (litCmp .lss (IntKind.wrap .u64 (litBin .shr .i64 (IntKind.wrap .i64 (litBin .shl .u64 b 32)) 32)) (IntKind.wrap .u64 (litBin .shr .i64 (IntKind.wrap .i64 (litBin .shl .u64 a 32)) 32))) (IntKind.wrap .u64 (litBin .shr .i64 (IntKind.wrap .i64 (litBin .shl .u64 b 32)) 32)) (IntKind.wrap .u64 (litBin .shr .i64 (IntKind.wrap .i64 (litBin .shl .u64 a 32)) 32))))) 4294967296)) false (cond (cond (litCmp .neq (IntKind.wrap .u64 (IntKind.wrap .u32 (cond (litCmp .lss (IntKind.wrap .u64 (litBin .shr .i64 (IntKind.wrap .i64 (litBin .shl .u64 b 32)) 32)) (IntKind.wrap .u64 (litBin .shr .i64 (IntKind.wrap .i64 (litBin .shl .u64 a 32)) 32))) (IntKind.wrap .u64 (litBin .shr .i64 (IntKind.wrap .i64 (litBin .shl .u64 b 32)) 32)) (IntKind.wrap .u64 (litBin .shr .i64 (IntKind.wrap .i64 (litBin .shl .u64 a 32)) 32))))) (litBin .rem .u64 a 4294967296)) (litCmp .neq (IntKind.wrap .u64 (IntKind.wrap .u32 (cond (litCmp .lss (IntKind.wrap .u64 (litBin .shr .i64 (IntKind.wrap .i64 (litBin .shl .u64 b 32)) 32)) (IntKind.wrap .u64 (litBin .shr .i64 (IntKind.wrap .i64 (litBin .shl .u64 a 32)) 32))) (IntKind.wrap .u64 (litBin .shr .i64 (IntKind.wrap .i64 (litBin .shl .u64 b 32)) 32)) (IntKind.wrap .u64 (litBin .shr .i64 (IntKind.wrap .i64 (litBin .shl .u64 a 32)) 32))))) (litBin .rem .u64 b 4294967296)) false) false (litCmp .eql (IntKind.wrap .u64 (IntKind.wrap .u32 (cond (litCmp .lss (IntKind.wrap .u64 (litBin .shr .i64 (IntKind.wrap .i64 (litBin .shl .u64 a 32)) 32)) (IntKind.wrap .u64 (litBin .shr .i64 (IntKind.wrap .i64 (litBin .shl .u64 b 32)) 32))) (IntKind.wrap .u64 (litBin .shr .i64 (IntKind.wrap .i64 (litBin .shl .u64 a 32)) 32)) (IntKind.wrap .u64 (litBin .shr .i64 (IntKind.wrap .i64 (litBin .shl .u64 b 32)) 32))))) (IntKind.wrap .u64 (IntKind.wrap .u32 (cond (litCmp .lss (IntKind.wrap .u64 (litBin .shr .i64 (IntKind.wrap .i64 (litBin .shl .u64 b 32)) 32)) (IntKind.wrap .u64 (litBin .shr .i64 (IntKind.wrap .i64 (litBin .shl .u64 a 32)) 32))) (IntKind.wrap .u64 (litBin .shr .i64 (IntKind.wrap .i64 (litBin .shl .u64 b 32)) 32)) (IntKind.wrap .u64 (litBin .shr .i64 (IntKind.wrap .i64 (litBin .shl .u64 a 32)) 32))))))))
def F86 (a b x y : Int) : Bool := (cond (cond (litCmp .neq (IntKind.wrap .u64 (IntKind.wrap .u32 (cond (litCmp .gtr (IntKind.wrap .u64 (litBin .shr .i64 (IntKind.wrap .i64 (litBin .shl .u64 (litBin .add .u64 (litBin .rem .u64 b 4294967296) (litBin .shl .u64 (IntKind.wrap .u64 y) 32)) 32)) 32)) (IntKind.wrap .u64 (litBin .shr .i64 (IntKind.wrap .i64 (litBin .shl .u64 (litBin .add .u64 (litBin .rem .u64 a 4294967296) (litBin .shl .u64 (IntKind.wrap .u64 x) 32)) 32)) 32))) (IntKind.wrap .u64 (litBin .shr .i64 (IntKind.wrap .i64 (litBin .shl .u64 (litBin .add .u64 (litBin .rem .u64 b 4294967296) (litBin .shl .u64 (IntKind.wrap .u64 y) 32)) 32)) 32)) (IntKind.wrap .u64 (litBin .shr .i64 (IntKind.wrap .i64 (litBin .shl .u64 (litBin .add .u64 (litBin .rem .u64 a 4294967296) (litBin .shl .u64 (IntKind.wrap .u64 x) 32)) 32)) 32))))) (IntKind.wrap .u64 (IntKind.wrap .u32 (cond (litCmp .gtr (IntKind.wrap .u64 (litBin .shr .i64 (IntKind.wrap .i64 (litBin .shl .u64 b 32)) 32)) (IntKind.wrap .u64 (litBin .shr .i64 (IntKind.wrap .i64 (litBin .shl .u64 a 32)) 32))) (IntKind.wrap .u64 (litBin .shr .i64 (IntKind.wrap .i64 (litBin .shl .u64 b 32)) 32)) (IntKind.wrap .u64 (litBin .shr .i64 (IntKind.wrap .i64 (litBin .shl .u64 a 32)) 32)))))) true (litCmp .geq (IntKind.wrap .u64 (IntKind.wrap .u32 (cond (litCmp .gtr (IntKind.wrap .u64 (litBin .shr .i64 (IntKind.wrap .i64 (litBin .shl .u64 b 32)) 32)) (IntKind.wrap .u64 (litBin .shr .i64 (IntKind.wrap .i64 (litBin .shl .u64 a 32)) 32))) (IntKind.wrap .u64 (litBin .shr .i64 (IntKind.wrap .i64 (litBin .shl .u64 b 32)) 32)) (IntKind.wrap .u64 (litBin .shr .i64 (IntKind.wrap .i64 (litBin .shl .u64 a 32)) 32))))) 4294967296)) false (cond (cond (litCmp .neq (IntKind.wrap .u64 (IntKind.wrap .u32 (cond (litCmp .gtr (IntKind.wrap .u64 (litBin .shr .i64 (IntKind.wrap .i64 (litBin .shl .u64 b 32)) 32)) (IntKind.wrap .u64 (litBin .shr .i64 (IntKind.wrap .i64 (litBin .shl .u64 a 32)) 32))) (IntKind.wrap .u64 (litBin .shr .i64 (IntKind.wrap .i64 (litBin .shl .u64 b 32)) 32)) (IntKind.wrap .u64 (litBin .shr .i64 (IntKind.wrap .i64 (litBin .shl .u64 a 32)) 32))))) (litBin .rem .u64 a 4294967296)) (litCmp .neq (IntKind.wrap .u64 (IntKind.wrap .u32 (cond (litCmp .gtr (IntKind.wrap .u64 (litBin .shr .i64 (IntKind.wrap .i64 (litBin .shl .u64 b 32)) 32)) (IntKind.wrap .u64 (litBin .shr .i64 (IntKind.wrap .i64 (litBin .shl .u64 a 32)) 32))) (IntKind.wrap .u64 (litBin .shr .i64 (IntKind.wrap .i64 (litBin .shl .u64 b 32)) 32)) (IntKind.wrap .u64 (litBin .shr .i64 (IntKind.wrap .i64 (litBin .shl .u64 a 32)) 32))))) (litBin .rem .u64 b 4294967296)) false) false (litCmp .eql (IntKind.wrap .u64 (IntKind.wrap .u32 (cond (litCmp .gtr (IntKind.wrap .u64 (litBin .shr .i64 (IntKind.wrap .i64 (litBin .shl .u64 a 32)) 32)) (IntKind.wrap .u64 (litBin .shr .i64 (IntKind.wrap .i64 (litBin .shl .u64 b 32)) 32))) (IntKind.wrap .u64 (litBin .shr .i64 (IntKind.wrap .i64 (litBin .shl .u64 a 32)) 32)) (IntKind.wrap .u64 (litBin .shr .i64 (IntKind.wrap .i64 (litBin .shl .u64 b 32)) 32))))) (IntKind.wrap .u64 (IntKind.wrap .u32 (cond (litCmp .gtr (IntKind.wrap .u64 (litBin .shr .i64 (IntKind.wrap .i64 (litBin .shl .u64 b 32)) 32)) (IntKind.wrap .u64 (litBin .shr .i64 (IntKind.wrap .i64 (litBin .shl .u64 a 32)) 32))) (IntKind.wrap .u64 (litBin .shr .i64 (IntKind.wrap .i64 (litBin .shl .u64 b 32)) 32)) (IntKind.wrap .u64 (litBin .shr .i64 (IntKind.wrap .i64 (litBin .shl .u64 a 32)) 32))))))))
def F87 (a b x y : Int) : Bool := (cond (litCmp .eql a a) true false)
def F88 (a b x y : Int) : Bool := (litCmp .eql b b)
def F90 (a b x y : Int) : Bool := (litCmp .eql (litBin .add .u64 b a) (litBin .add .u64 a b))
def F91 (a b x y : Int) : Bool := (litCmp .eql (litBin .xor .u64 b a) (litBin .xor .u64 a b))
def F92 (a b x y : Int) : Bool := (litCmp .eql (litBin .and .u64 b a) (litBin .and .u64 a b))
def F93 (a b x y : Int) : Bool := (litCmp .eql (litBin .or .u64 b a) (litBin .or .u64 a b))
def F94 (a b x y : Int) : Bool := (cond (cond (litCmp .neq (IntKind.wrap .u64 (cond (litCmp .lss (IntKind.wrap .i64 b) (IntKind.wrap .i64 a)) (IntKind.wrap .i64 b) (IntKind.wrap .i64 a))) a) (litCmp .neq (IntKind.wrap .u64 (cond (litCmp .lss (IntKind.wrap .i64 b) (IntKind.wrap .i64 a)) (IntKind.wrap .i64 b) (IntKind.wrap .i64 a))) b) false) false (litCmp .eql (IntKind.wrap .u64 (cond (litCmp .lss (IntKind.wrap .i64 a) (IntKind.wrap .i64 b)) (IntKind.wrap .i64 a) (IntKind.wrap .i64 b))) (IntKind.wrap .u64 (cond (litCmp .lss (IntKind.wrap .i64 b) (IntKind.wrap .i64 a)) (IntKind.wrap .i64 b) (IntKind.wrap .i64 a)))))
def F95 (a b x y : Int) : Bool := (cond (cond (litCmp .neq (IntKind.wrap .u64 (cond (litCmp .gtr (IntKind.wrap .i64 b) (IntKind.wrap .i64 a)) (IntKind.wrap .i64 b) (IntKind.wrap .i64 a))) a) (litCmp .neq (IntKind.wrap .u64 (cond (litCmp .gtr (IntKind.wrap .i64 b) (IntKind.wrap .i64 a)) (IntKind.wrap .i64 b) (IntKind.wrap .i64 a))) b) false) false (litCmp .eql (IntKind.wrap .u64 (cond (litCmp .gtr (IntKind.wrap .i64 a) (IntKind.wrap .i64 b)) (IntKind.wrap .i64 a) (IntKind.wrap .i64 b))) (IntKind.wrap .u64 (cond (litCmp .gtr (IntKind.wrap .i64 b) (IntKind.wrap .i64 a)) (IntKind.wrap .i64 b) (IntKind.wrap .i64 a)))))
def F96 (a b x y : Int) : Bool := (cond (cond (litCmp .neq (cond (litCmp .lss b a) b a) a) (litCmp .neq (cond (litCmp .lss b a) b a) b) false) false (litCmp .eql (cond (litCmp .lss a b) a b) (cond (litCmp .lss b a) b a)))
def F97 (a b x y : Int) : Bool := (cond (cond (litCmp .neq (cond (litCmp .gtr b a) b a) a) (litCmp .neq (cond (litCmp .gtr b a) b a) b) false) false (litCmp .eql (cond (litCmp .gtr a b) a b) (cond (litCmp .gtr b a) b a)))
def pp (o : Int) : Int := (litBin .add .i64 76 (litBin .rem .i64 (IntKind.wrap .i64 o) 22))
set_option maxRecDepth 100000 in
theorem road (a b x y o : Int) : ((call Try.prog cxn 400 12 [.int .u64 (.sym a), .int .u64 (.sym b), .agg [.int .u32 (.sym x), .int .u32 (.sym y), .int .u8 (.sym o)]] []).route []).map (fun p => (p.1, p.2.1)) = some ([], .val (.bool (.sym (V (pp o) a b x y)))) := by kernel_rfl

theorem at76 (a b x y : Int) : V 76 a b x y = F76 a b x y := by kernel_rfl
theorem at77 (a b x y : Int) : V 77 a b x y = F77 a b x y := by kernel_rfl
theorem at78 (a b x y : Int) : V 78 a b x y = F77 a b x y := by kernel_rfl
theorem at79 (a b x y : Int) : V 79 a b x y = F79 a b x y := by kernel_rfl
theorem at80 (a b x y : Int) : V 80 a b x y = F80 a b x y := by kernel_rfl
theorem at81 (a b x y : Int) : V 81 a b x y = F81 a b x y := by kernel_rfl
theorem at82 (a b x y : Int) : V 82 a b x y = F82 a b x y := by kernel_rfl
theorem at83 (a b x y : Int) : V 83 a b x y = F83 a b x y := by kernel_rfl
theorem at84 (a b x y : Int) : V 84 a b x y = F84 a b x y := by kernel_rfl
theorem at85 (a b x y : Int) : V 85 a b x y = F85 a b x y := by kernel_rfl
theorem at86 (a b x y : Int) : V 86 a b x y = F86 a b x y := by kernel_rfl
theorem at87 (a b x y : Int) : V 87 a b x y = F87 a b x y := by kernel_rfl
theorem at88 (a b x y : Int) : V 88 a b x y = F88 a b x y := by kernel_rfl
theorem at89 (a b x y : Int) : V 89 a b x y = F88 a b x y := by kernel_rfl
theorem at90 (a b x y : Int) : V 90 a b x y = F90 a b x y := by kernel_rfl
theorem at91 (a b x y : Int) : V 91 a b x y = F91 a b x y := by kernel_rfl
theorem at92 (a b x y : Int) : V 92 a b x y = F92 a b x y := by kernel_rfl
theorem at93 (a b x y : Int) : V 93 a b x y = F93 a b x y := by kernel_rfl
theorem at94 (a b x y : Int) : V 94 a b x y = F94 a b x y := by kernel_rfl
theorem at95 (a b x y : Int) : V 95 a b x y = F95 a b x y := by kernel_rfl
theorem at96 (a b x y : Int) : V 96 a b x y = F96 a b x y := by kernel_rfl
theorem at97 (a b x y : Int) : V 97 a b x y = F97 a b x y := by kernel_rfl

theorem same {a h : Int} (wh : 0 ≤ h ∧ h < 4294967296) : sx (litBin .add .u64 (a % 4294967296) (litBin .shl .u64 (IntKind.wrap .u64 h) 32)) = sx a := by
  refine sx_congr ?_
  rw [add_eq, shl32, Ev.wrap64]
  omega
theorem unsC {A B : Int} (hA : inU A) (hB : inU B) (c : Bool) : IntKind.wrap .u64 (cond c (IntKind.wrap .i64 B) (IntKind.wrap .i64 A)) = cond c B A := by
  cases c
  · exact uns hA
  · exact uns hB
theorem inM (x : Int) : inU (x % 4294967296) := by unfold inU; omega
theorem gtrE (x y : Int) : litCmp .gtr y x = litCmp .lss x y := rfl
theorem geqM (x : Int) : litCmp .geq (x % 4294967296) 4294967296 = false := decide_eq_false (by omega)
theorem oneM (c : Bool) (a b : Int) : cond (litCmp .neq ((cond c (sx b) (sx a)) % 4294967296) (a % 4294967296)) (litCmp .neq ((cond c (sx b) (sx a)) % 4294967296) (b % 4294967296)) false = false := by
  cases c
  · rw [cond_false, sx_mod, neq_self]
    rfl
  · rw [cond_true, sx_mod, neq_self, Bool.cond_self]
theorem one64 (c : Bool) (a b : Int) : cond (litCmp .neq (cond c b a) a) (litCmp .neq (cond c b a) b) false = false := by
  cases c
  · rw [cond_false, neq_self]
    rfl
  · rw [cond_true, neq_self, Bool.cond_self]
theorem wi_inj {A B : Int} (hA : inU A) (hB : inU B) (h : IntKind.wrap .i64 A = IntKind.wrap .i64 B) : A = B := by
  unfold inU at hA hB
  rw [wrapi, wrapi] at h
  omega
theorem minW {A B : Int} (hA : inU A) (hB : inU B) : cond (litCmp .lss (IntKind.wrap .i64 A) (IntKind.wrap .i64 B)) A B = cond (litCmp .lss (IntKind.wrap .i64 B) (IntKind.wrap .i64 A)) B A := by
  rw [lss_eq, lss_eq]
  by_cases h1 : IntKind.wrap .i64 A < IntKind.wrap .i64 B
  · rw [decide_eq_true h1, decide_eq_false (by omega)]; rfl
  · by_cases h2 : IntKind.wrap .i64 B < IntKind.wrap .i64 A
    · rw [decide_eq_false h1, decide_eq_true h2]; rfl
    · rw [decide_eq_false h1, decide_eq_false h2]
      exact (wi_inj hA hB (by omega)).symm
theorem maxW {A B : Int} (hA : inU A) (hB : inU B) : cond (litCmp .lss (IntKind.wrap .i64 B) (IntKind.wrap .i64 A)) A B = cond (litCmp .lss (IntKind.wrap .i64 A) (IntKind.wrap .i64 B)) B A := by
  rw [lss_eq, lss_eq]
  by_cases h1 : IntKind.wrap .i64 A < IntKind.wrap .i64 B
  · rw [decide_eq_true h1, decide_eq_false (by omega)]; rfl
  · by_cases h2 : IntKind.wrap .i64 B < IntKind.wrap .i64 A
    · rw [decide_eq_false h1, decide_eq_true h2]; rfl
    · rw [decide_eq_false h1, decide_eq_false h2]
      exact (wi_inj hA hB (by omega)).symm
theorem minP (A B : Int) : cond (litCmp .lss A B) A B = cond (litCmp .lss B A) B A := by
  rw [lss_eq, lss_eq]
  by_cases h1 : A < B
  · rw [decide_eq_true h1, decide_eq_false (by omega)]; rfl
  · by_cases h2 : B < A
    · rw [decide_eq_false h1, decide_eq_true h2]; rfl
    · rw [decide_eq_false h1, decide_eq_false h2]
      show B = A
      omega
theorem maxP (A B : Int) : cond (litCmp .lss B A) A B = cond (litCmp .lss A B) B A := by
  rw [lss_eq, lss_eq]
  by_cases h1 : A < B
  · rw [decide_eq_true h1, decide_eq_false (by omega)]; rfl
  · by_cases h2 : B < A
    · rw [decide_eq_false h1, decide_eq_true h2]; rfl
    · rw [decide_eq_false h1, decide_eq_false h2]
      show B = A
      omega
theorem addC (x y : Int) : litBin .add .u64 x y = litBin .add .u64 y x := by rw [add_eq, add_eq, Int.add_comm]
theorem xorC (x y : Int) : litBin .xor .u64 x y = litBin .xor .u64 y x := by
  show IntKind.u64.wrap ((BitVec.ofInt IntKind.u64.bits x ^^^ BitVec.ofInt IntKind.u64.bits y).toNat : Int) = IntKind.u64.wrap ((BitVec.ofInt IntKind.u64.bits y ^^^ BitVec.ofInt IntKind.u64.bits x).toNat : Int)
  rw [BitVec.xor_comm]
theorem andC (x y : Int) : litBin .and .u64 x y = litBin .and .u64 y x := by
  show IntKind.u64.wrap ((BitVec.ofInt IntKind.u64.bits x &&& BitVec.ofInt IntKind.u64.bits y).toNat : Int) = IntKind.u64.wrap ((BitVec.ofInt IntKind.u64.bits y &&& BitVec.ofInt IntKind.u64.bits x).toNat : Int)
  rw [BitVec.and_comm]
theorem orC (x y : Int) : litBin .or .u64 x y = litBin .or .u64 y x := by
  show IntKind.u64.wrap ((BitVec.ofInt IntKind.u64.bits x ||| BitVec.ofInt IntKind.u64.bits y).toNat : Int) = IntKind.u64.wrap ((BitVec.ofInt IntKind.u64.bits y ||| BitVec.ofInt IntKind.u64.bits x).toNat : Int)
  rw [BitVec.or_comm]
theorem is76 {a b x y : Int} (ha : inU a) (hb : inU b) (hx : 0 ≤ x ∧ x < 4294967296) (hy : 0 ≤ y ∧ y < 4294967296) : F76 a b x y = true := by
  unfold F76
  simp only [sx32, same hx, same hy, rem32 ha, rem32 hb, low32, gtrE, unsC (inU_sx a) (inU_sx b), unsC (inU_sx b) (inU_sx a), unsC ha hb, unsC hb ha, neq_self, eql_self, geqM, oneM, one64, cond_true, cond_false, sx_mod]
  rw [rem32 (inM a)]
  exact eql_of (by omega)
theorem is77 {a b x y : Int} (ha : inU a) (hb : inU b) (hx : 0 ≤ x ∧ x < 4294967296) (hy : 0 ≤ y ∧ y < 4294967296) : F77 a b x y = true := by
  unfold F77
  simp only [sx32, same hx, same hy, rem32 ha, rem32 hb, low32, gtrE, unsC (inU_sx a) (inU_sx b), unsC (inU_sx b) (inU_sx a), unsC ha hb, unsC hb ha, neq_self, eql_self, geqM, oneM, one64, cond_true, cond_false, sx_mod]
theorem is79 {a b x y : Int} (ha : inU a) (hb : inU b) (hx : 0 ≤ x ∧ x < 4294967296) (hy : 0 ≤ y ∧ y < 4294967296) : F79 a b x y = true := by
  unfold F79
  simp only [sx32, same hx, same hy, rem32 ha, rem32 hb, low32, gtrE, unsC (inU_sx a) (inU_sx b), unsC (inU_sx b) (inU_sx a), unsC ha hb, unsC hb ha, neq_self, eql_self, geqM, oneM, one64, cond_true, cond_false, sx_mod, addC (sx b) (sx a)]
theorem is80 {a b x y : Int} (ha : inU a) (hb : inU b) (hx : 0 ≤ x ∧ x < 4294967296) (hy : 0 ≤ y ∧ y < 4294967296) : F80 a b x y = true := by
  unfold F80
  simp only [sx32, same hx, same hy, rem32 ha, rem32 hb, low32, gtrE, unsC (inU_sx a) (inU_sx b), unsC (inU_sx b) (inU_sx a), unsC ha hb, unsC hb ha, neq_self, eql_self, geqM, oneM, one64, cond_true, cond_false, sx_mod, xorC (sx b) (sx a)]
theorem is81 {a b x y : Int} (ha : inU a) (hb : inU b) (hx : 0 ≤ x ∧ x < 4294967296) (hy : 0 ≤ y ∧ y < 4294967296) : F81 a b x y = true := by
  unfold F81
  simp only [sx32, same hx, same hy, rem32 ha, rem32 hb, low32, gtrE, unsC (inU_sx a) (inU_sx b), unsC (inU_sx b) (inU_sx a), unsC ha hb, unsC hb ha, neq_self, eql_self, geqM, oneM, one64, cond_true, cond_false, sx_mod, andC (sx b) (sx a)]
theorem is82 {a b x y : Int} (ha : inU a) (hb : inU b) (hx : 0 ≤ x ∧ x < 4294967296) (hy : 0 ≤ y ∧ y < 4294967296) : F82 a b x y = true := by
  unfold F82
  simp only [sx32, same hx, same hy, rem32 ha, rem32 hb, low32, gtrE, unsC (inU_sx a) (inU_sx b), unsC (inU_sx b) (inU_sx a), unsC ha hb, unsC hb ha, neq_self, eql_self, geqM, oneM, one64, cond_true, cond_false, sx_mod, orC (sx b) (sx a)]
theorem is83 {a b x y : Int} (ha : inU a) (hb : inU b) (hx : 0 ≤ x ∧ x < 4294967296) (hy : 0 ≤ y ∧ y < 4294967296) : F83 a b x y = true := by
  unfold F83
  simp only [sx32, same hx, same hy, rem32 ha, rem32 hb, low32, gtrE, unsC (inU_sx a) (inU_sx b), unsC (inU_sx b) (inU_sx a), unsC ha hb, unsC hb ha, neq_self, eql_self, geqM, oneM, one64, cond_true, cond_false, sx_mod, minW (inU_sx a) (inU_sx b)]
theorem is84 {a b x y : Int} (ha : inU a) (hb : inU b) (hx : 0 ≤ x ∧ x < 4294967296) (hy : 0 ≤ y ∧ y < 4294967296) : F84 a b x y = true := by
  unfold F84
  simp only [sx32, same hx, same hy, rem32 ha, rem32 hb, low32, gtrE, unsC (inU_sx a) (inU_sx b), unsC (inU_sx b) (inU_sx a), unsC ha hb, unsC hb ha, neq_self, eql_self, geqM, oneM, one64, cond_true, cond_false, sx_mod, maxW (inU_sx a) (inU_sx b)]
theorem is85 {a b x y : Int} (ha : inU a) (hb : inU b) (hx : 0 ≤ x ∧ x < 4294967296) (hy : 0 ≤ y ∧ y < 4294967296) : F85 a b x y = true := by
  unfold F85
  simp only [sx32, same hx, same hy, rem32 ha, rem32 hb, low32, gtrE, unsC (inU_sx a) (inU_sx b), unsC (inU_sx b) (inU_sx a), unsC ha hb, unsC hb ha, neq_self, eql_self, geqM, oneM, one64, cond_true, cond_false, sx_mod, minP (sx a) (sx b)]
theorem is86 {a b x y : Int} (ha : inU a) (hb : inU b) (hx : 0 ≤ x ∧ x < 4294967296) (hy : 0 ≤ y ∧ y < 4294967296) : F86 a b x y = true := by
  unfold F86
  simp only [sx32, same hx, same hy, rem32 ha, rem32 hb, low32, gtrE, unsC (inU_sx a) (inU_sx b), unsC (inU_sx b) (inU_sx a), unsC ha hb, unsC hb ha, neq_self, eql_self, geqM, oneM, one64, cond_true, cond_false, sx_mod, maxP (sx a) (sx b)]
theorem is87 {a b x y : Int} (ha : inU a) (hb : inU b) (hx : 0 ≤ x ∧ x < 4294967296) (hy : 0 ≤ y ∧ y < 4294967296) : F87 a b x y = true := by
  unfold F87
  simp only [sx32, same hx, same hy, rem32 ha, rem32 hb, low32, gtrE, unsC (inU_sx a) (inU_sx b), unsC (inU_sx b) (inU_sx a), unsC ha hb, unsC hb ha, neq_self, eql_self, geqM, oneM, one64, cond_true, cond_false, sx_mod]
theorem is88 {a b x y : Int} (ha : inU a) (hb : inU b) (hx : 0 ≤ x ∧ x < 4294967296) (hy : 0 ≤ y ∧ y < 4294967296) : F88 a b x y = true := by
  unfold F88
  simp only [sx32, same hx, same hy, rem32 ha, rem32 hb, low32, gtrE, unsC (inU_sx a) (inU_sx b), unsC (inU_sx b) (inU_sx a), unsC ha hb, unsC hb ha, neq_self, eql_self, geqM, oneM, one64, cond_true, cond_false, sx_mod]
theorem is90 {a b x y : Int} (ha : inU a) (hb : inU b) (hx : 0 ≤ x ∧ x < 4294967296) (hy : 0 ≤ y ∧ y < 4294967296) : F90 a b x y = true := by
  unfold F90
  simp only [sx32, same hx, same hy, rem32 ha, rem32 hb, low32, gtrE, unsC (inU_sx a) (inU_sx b), unsC (inU_sx b) (inU_sx a), unsC ha hb, unsC hb ha, neq_self, eql_self, geqM, oneM, one64, cond_true, cond_false, sx_mod, addC b a]
theorem is91 {a b x y : Int} (ha : inU a) (hb : inU b) (hx : 0 ≤ x ∧ x < 4294967296) (hy : 0 ≤ y ∧ y < 4294967296) : F91 a b x y = true := by
  unfold F91
  simp only [sx32, same hx, same hy, rem32 ha, rem32 hb, low32, gtrE, unsC (inU_sx a) (inU_sx b), unsC (inU_sx b) (inU_sx a), unsC ha hb, unsC hb ha, neq_self, eql_self, geqM, oneM, one64, cond_true, cond_false, sx_mod, xorC b a]
theorem is92 {a b x y : Int} (ha : inU a) (hb : inU b) (hx : 0 ≤ x ∧ x < 4294967296) (hy : 0 ≤ y ∧ y < 4294967296) : F92 a b x y = true := by
  unfold F92
  simp only [sx32, same hx, same hy, rem32 ha, rem32 hb, low32, gtrE, unsC (inU_sx a) (inU_sx b), unsC (inU_sx b) (inU_sx a), unsC ha hb, unsC hb ha, neq_self, eql_self, geqM, oneM, one64, cond_true, cond_false, sx_mod, andC b a]
theorem is93 {a b x y : Int} (ha : inU a) (hb : inU b) (hx : 0 ≤ x ∧ x < 4294967296) (hy : 0 ≤ y ∧ y < 4294967296) : F93 a b x y = true := by
  unfold F93
  simp only [sx32, same hx, same hy, rem32 ha, rem32 hb, low32, gtrE, unsC (inU_sx a) (inU_sx b), unsC (inU_sx b) (inU_sx a), unsC ha hb, unsC hb ha, neq_self, eql_self, geqM, oneM, one64, cond_true, cond_false, sx_mod, orC b a]
theorem is94 {a b x y : Int} (ha : inU a) (hb : inU b) (hx : 0 ≤ x ∧ x < 4294967296) (hy : 0 ≤ y ∧ y < 4294967296) : F94 a b x y = true := by
  unfold F94
  simp only [sx32, same hx, same hy, rem32 ha, rem32 hb, low32, gtrE, unsC (inU_sx a) (inU_sx b), unsC (inU_sx b) (inU_sx a), unsC ha hb, unsC hb ha, neq_self, eql_self, geqM, oneM, one64, cond_true, cond_false, sx_mod, minW ha hb]
theorem is95 {a b x y : Int} (ha : inU a) (hb : inU b) (hx : 0 ≤ x ∧ x < 4294967296) (hy : 0 ≤ y ∧ y < 4294967296) : F95 a b x y = true := by
  unfold F95
  simp only [sx32, same hx, same hy, rem32 ha, rem32 hb, low32, gtrE, unsC (inU_sx a) (inU_sx b), unsC (inU_sx b) (inU_sx a), unsC ha hb, unsC hb ha, neq_self, eql_self, geqM, oneM, one64, cond_true, cond_false, sx_mod, maxW ha hb]
theorem is96 {a b x y : Int} (ha : inU a) (hb : inU b) (hx : 0 ≤ x ∧ x < 4294967296) (hy : 0 ≤ y ∧ y < 4294967296) : F96 a b x y = true := by
  unfold F96
  simp only [sx32, same hx, same hy, rem32 ha, rem32 hb, low32, gtrE, unsC (inU_sx a) (inU_sx b), unsC (inU_sx b) (inU_sx a), unsC ha hb, unsC hb ha, neq_self, eql_self, geqM, oneM, one64, cond_true, cond_false, sx_mod, minP a b]
theorem is97 {a b x y : Int} (ha : inU a) (hb : inU b) (hx : 0 ≤ x ∧ x < 4294967296) (hy : 0 ≤ y ∧ y < 4294967296) : F97 a b x y = true := by
  unfold F97
  simp only [sx32, same hx, same hy, rem32 ha, rem32 hb, low32, gtrE, unsC (inU_sx a) (inU_sx b), unsC (inU_sx b) (inU_sx a), unsC ha hb, unsC hb ha, neq_self, eql_self, geqM, oneM, one64, cond_true, cond_false, sx_mod, maxP a b]
theorem pp_in {o : Int} (wo : (Lit.int .u8 o).wf = true) : pp o = 76 ∨ pp o = 77 ∨ pp o = 78 ∨ pp o = 79 ∨ pp o = 80 ∨ pp o = 81 ∨ pp o = 82 ∨ pp o = 83 ∨ pp o = 84 ∨ pp o = 85 ∨ pp o = 86 ∨ pp o = 87 ∨ pp o = 88 ∨ pp o = 89 ∨ pp o = 90 ∨ pp o = 91 ∨ pp o = 92 ∨ pp o = 93 ∨ pp o = 94 ∨ pp o = 95 ∨ pp o = 96 ∨ pp o = 97 := by
  have h0 := wf8 wo
  have e : pp o = 76 + o % 22 := by
    show IntKind.i64.wrap (76 + (IntKind.i64.wrap o).tmod 22) = _
    rw [wrapi o, Int.tmod_eq_emod_of_nonneg (by omega), wrapi]
    omega
  omega
theorem law {a b x y o : Int} (wa : (Lit.int .u64 a).wf = true) (wb : (Lit.int .u64 b).wf = true) (wx : (Lit.int .u32 x).wf = true) (wy : (Lit.int .u32 y).wf = true) (wo : (Lit.int .u8 o).wf = true) : V (pp o) a b x y = true := by
  have ha := inU_wf wa
  have hb := inU_wf wb
  have hx := wf32 wx
  have hy := wf32 wy
  have hp := pp_in wo
  generalize pp o = p at *
  rcases hp with h | h | h | h | h | h | h | h | h | h | h | h | h | h | h | h | h | h | h | h | h | h <;> subst h
  · exact (at76 a b x y).trans (is76 ha hb hx hy)
  · exact (at77 a b x y).trans (is77 ha hb hx hy)
  · exact (at78 a b x y).trans (is77 ha hb hx hy)
  · exact (at79 a b x y).trans (is79 ha hb hx hy)
  · exact (at80 a b x y).trans (is80 ha hb hx hy)
  · exact (at81 a b x y).trans (is81 ha hb hx hy)
  · exact (at82 a b x y).trans (is82 ha hb hx hy)
  · exact (at83 a b x y).trans (is83 ha hb hx hy)
  · exact (at84 a b x y).trans (is84 ha hb hx hy)
  · exact (at85 a b x y).trans (is85 ha hb hx hy)
  · exact (at86 a b x y).trans (is86 ha hb hx hy)
  · exact (at87 a b x y).trans (is87 ha hb hx hy)
  · exact (at88 a b x y).trans (is88 ha hb hx hy)
  · exact (at89 a b x y).trans (is88 ha hb hx hy)
  · exact (at90 a b x y).trans (is90 ha hb hx hy)
  · exact (at91 a b x y).trans (is91 ha hb hx hy)
  · exact (at92 a b x y).trans (is92 ha hb hx hy)
  · exact (at93 a b x y).trans (is93 ha hb hx hy)
  · exact (at94 a b x y).trans (is94 ha hb hx hy)
  · exact (at95 a b x y).trans (is95 ha hb hx hy)
  · exact (at96 a b x y).trans (is96 ha hb hx hy)
  · exact (at97 a b x y).trans (is97 ha hb hx hy)

theorem sums (a b x y o : Int) (wa : (Lit.int .u64 a).wf = true) (wb : (Lit.int .u64 b).wf = true) (wx : (Lit.int .u32 x).wf = true) (wy : (Lit.int .u32 y).wf = true) (wo : (Lit.int .u8 o).wf = true) :
    ∃ c : Bool, (call Try.prog cxn 400 12 [.int .u64 (.sym a), .int .u64 (.sym b), .agg [.int .u32 (.sym x), .int .u32 (.sym y), .int .u8 (.sym o)]] []).pick.map (·.1) = some (.val (.bool (.sym c))) ∧ c = true :=
  ⟨_, route_pick1 (road a b x y o) rfl, law wa wb wx wy wo⟩

set_option maxRecDepth 100000 in
set_option maxHeartbeats 4000000 in
theorem run : ∀ vs, ArgsOk [.one (.int .u64), .one (.int .u64), .agg [.int .u32, .int .u32, .int .u8]] vs → ∀ w, Calls Try.prog 12 vs.toArray w fun e w' => e = .returned (.bool true) ∧ Below w.heap.size w w' := by
  intro vs h w
  obtain ⟨_, _, rfl, ⟨a, rfl, wa⟩, _, _, rfl, ⟨b, rfl, wb⟩, _, _, rfl, ⟨_, rfl, _, _, rfl, ⟨x, rfl, wx⟩, _, _, rfl, ⟨y, rfl, wy⟩, _, _, rfl, ⟨o, rfl, wo⟩, rfl⟩, rfl⟩ := h
  obtain ⟨c, k1, k2⟩ := sums a b x y o wa wb wx wy wo
  have k3 := (rfl : List.map absV [.int .u64 a, .int .u64 b, .agg [.int .u32 x, .int .u32 y, .int .u8 o].toArray] = [.int .u64 (.sym a), .int .u64 (.sym b), .agg [.int .u32 (.sym x), .int .u32 (.sym y), .int .u8 (.sym o)]])
  have k4 := law_true2 cxn_ok k3 k1 k2 w
  exact k4

set_option maxRecDepth 100000 in
theorem lifted (os : Os) (started : os.Started) (H : Type) (enc : TypeId × Value → H) :
    ReturnsInHanded {} Try.checked os 12 .any (Rows.amoValuesSpec.pre6 enc Try.prog Try.f12 Rows.amoValuesRow.domain false) (Rows.amoValuesSpec.post enc Try.prog Try.f12 false true false false) := by
  refine returnsInHanded_of_change (C := Try.checked) own started (by kernel_rfl) Try.func12
    (ChangeSpec.witness6 (enc := enc) (C := Try.checked) false ⟨#[], #[.int .u64 0, .int .u64 0, .agg #[.int .u32 0, .int .u32 0, .int .u8 0]], []⟩ 8 (by kernel_rfl) (by kernel_rfl) (by kernel_rfl) (by kernel_rfl)) ?_
  intro W base args ds gs before hval hW _ _
  exact lifted_plain (P := Try.prog) (f := 12) (fn := Try.f12) (s := Rows.amoValuesSpec) (tb := 4) rfl
    (fun ds h => by
      match ds, h with
      | [d1, d2, d3], _ => rfl)
    (by kernel_rfl) rfl (by kernel_rfl) run W base args ds gs before hval hW

theorem over : Rows.amoValuesRow.holds Try.pinned (OpenSpec.ofChange Rows.amoValuesSpec) :=
  OpenClaim.holds_of_wide 12 Try.f12 rfl rfl rfl rfl rfl rfl rfl ⟨rfl, rfl, rfl, rfl, rfl⟩ rfl rfl rfl rfl rfl (by kernel_rfl) Try.func12 (by kernel_rfl)
    (of_decide_eq_true (by kernel_rfl)) (by unfold Func.isWrapper; first | (rw [if_pos (by decide +kernel)]; kernel_rfl) | (rw [if_neg (by decide +kernel)]; exact ⟨rfl, rfl⟩))
    (fun os started H enc _ => lifted os started H enc)

/-- The statement. -/
theorem proved : Rows.AmoValuesSaid :=
  over
#print axioms proved
end Go.Proofs.Ytgljicadcegilaa.AmoValues
