/- The statement 'AluDivides': what is divided goes with what is multiplied, of 64 bits and of 32; and the high halves of products go with each other. Conditions: none. -/
import Derived.Test.YtgljicadcegilaaWords
import Derived.Test.YtgljicadcegilaaCxp
namespace Go.Proofs.Ytgljicadcegilaa.AluDivides
open Go.RowKit Go.WideShapes Go.ChangeShapes Go.ChangeAt Ev
set_option linter.unusedVariables false
set_option linter.unusedSimpArgs false

def test0 (a : Int) (b : Int) : Bool := (cond (litCmp .eql (IntKind.wrap .i64 b) 0) true (cond (litCmp .eql (IntKind.wrap .i64 b) (-1)) true ((!(litCmp .eql (IntKind.wrap .i64 b) 0)) && (!(litCmp .eql (IntKind.wrap .i64 b) 0)))))
def test1 (a : Int) (b : Int) : Bool := (cond (litCmp .eql (IntKind.wrap .i64 b) 0) true (cond (litCmp .eql (IntKind.wrap .i64 b) (-1)) true ((!(litCmp .eql (IntKind.wrap .i64 b) 0)) && (!(litCmp .eql (IntKind.wrap .i64 b) 0)))))
def test2 (a : Int) (b : Int) : Bool := (cond (litCmp .eql b 0) true ((!(litCmp .eql b 0)) && (!(litCmp .eql b 0))))
def test3 (a : Int) (b : Int) : Bool := (cond (litCmp .eql b 0) true ((!(litCmp .eql b 0)) && (!(litCmp .eql b 0))))
def test4 (a : Int) (b : Int) : Bool := (cond (litCmp .eql (IntKind.wrap .i32 b) 0) true (cond (litCmp .eql (IntKind.wrap .i32 b) (-1)) true ((!(litCmp .eql (IntKind.wrap .i32 b) 0)) && (!(litCmp .eql (IntKind.wrap .i32 b) 0)))))
def test5 (a : Int) (b : Int) : Bool := (cond (litCmp .eql (IntKind.wrap .i32 b) 0) true (cond (litCmp .eql (IntKind.wrap .i32 b) (-1)) true ((!(litCmp .eql (IntKind.wrap .i32 b) 0)) && (!(litCmp .eql (IntKind.wrap .i32 b) 0)))))
def test6 (a : Int) (b : Int) : Bool := (litCmp .eql (litBin .add .u64 (litBin .mul .u64 (IntKind.wrap .u64 (cond (litCmp .eql (IntKind.wrap .i64 b) 0) (-1) (cond (litCmp .eql (IntKind.wrap .i64 b) (-1)) (litUna .neg .i64 (IntKind.wrap .i64 a)) (litBin .quo .i64 (IntKind.wrap .i64 a) (IntKind.wrap .i64 b))))) (litBin .and .u64 b 18446744073709551615)) (IntKind.wrap .u64 (cond (litCmp .eql (IntKind.wrap .i64 b) 0) (IntKind.wrap .i64 a) (cond (litCmp .eql (IntKind.wrap .i64 b) (-1)) 0 (litBin .rem .i64 (IntKind.wrap .i64 a) (IntKind.wrap .i64 b)))))) a)
def test7 (a : Int) (b : Int) : Bool := (litCmp .eql (litBin .add .u64 (litBin .mul .u64 (cond (litCmp .eql b 0) 18446744073709551615 (litBin .quo .u64 a b)) (litBin .and .u64 b 18446744073709551615)) (cond (litCmp .eql b 0) a (litBin .rem .u64 a b))) a)
def test8 (a : Int) (b : Int) : Bool := (litCmp .eql (IntKind.wrap .u64 (litBin .shr .i64 (IntKind.wrap .i64 (litBin .shl .u64 (litBin .add .u64 (IntKind.wrap .u64 (litBin .shr .i64 (IntKind.wrap .i64 (litBin .shl .u64 (litBin .mul .u64 (IntKind.wrap .u64 (cond (litCmp .eql (IntKind.wrap .i32 b) 0) (-1) (cond (litCmp .eql (IntKind.wrap .i32 b) (-1)) (litUna .neg .i32 (IntKind.wrap .i32 a)) (litBin .quo .i32 (IntKind.wrap .i32 a) (IntKind.wrap .i32 b))))) b) 32)) 32)) (IntKind.wrap .u64 (cond (litCmp .eql (IntKind.wrap .i32 b) 0) (IntKind.wrap .i32 a) (cond (litCmp .eql (IntKind.wrap .i32 b) (-1)) 0 (litBin .rem .i32 (IntKind.wrap .i32 a) (IntKind.wrap .i32 b)))))) 32)) 32)) (IntKind.wrap .u64 (litBin .shr .i64 (IntKind.wrap .i64 (litBin .shl .u64 (litBin .add .u64 a 0) 32)) 32)))
def test9 (a : Int) (b : Int) : Bool := (litCmp .eql (cond (litCmp .eql (litBin .shr .u64 a 63) 1) (litBin .add .u64 (litBin .sub .u64 (litBin .sub .u64 (litBin .add .u64 (litBin .add .u64 (litBin .mul .u64 (litBin .shr .u64 a 32) (litBin .shr .u64 b 32)) (litBin .shr .u64 (litBin .add .u64 (litBin .mul .u64 (litBin .shr .u64 a 32) (litBin .and .u64 b 4294967295)) (litBin .shr .u64 (litBin .mul .u64 (litBin .and .u64 a 4294967295) (litBin .and .u64 b 4294967295)) 32)) 32)) (litBin .shr .u64 (litBin .add .u64 (litBin .and .u64 (litBin .add .u64 (litBin .mul .u64 (litBin .shr .u64 a 32) (litBin .and .u64 b 4294967295)) (litBin .shr .u64 (litBin .mul .u64 (litBin .and .u64 a 4294967295) (litBin .and .u64 b 4294967295)) 32)) 4294967295) (litBin .mul .u64 (litBin .and .u64 a 4294967295) (litBin .shr .u64 b 32))) 32)) (litBin .and .u64 (IntKind.wrap .u64 (litBin .shr .i64 (IntKind.wrap .i64 a) 63)) b)) (litBin .and .u64 0 a)) b) (litBin .sub .u64 (litBin .sub .u64 (litBin .add .u64 (litBin .add .u64 (litBin .mul .u64 (litBin .shr .u64 a 32) (litBin .shr .u64 b 32)) (litBin .shr .u64 (litBin .add .u64 (litBin .mul .u64 (litBin .shr .u64 a 32) (litBin .and .u64 b 4294967295)) (litBin .shr .u64 (litBin .mul .u64 (litBin .and .u64 a 4294967295) (litBin .and .u64 b 4294967295)) 32)) 32)) (litBin .shr .u64 (litBin .add .u64 (litBin .and .u64 (litBin .add .u64 (litBin .mul .u64 (litBin .shr .u64 a 32) (litBin .and .u64 b 4294967295)) (litBin .shr .u64 (litBin .mul .u64 (litBin .and .u64 a 4294967295) (litBin .and .u64 b 4294967295)) 32)) 4294967295) (litBin .mul .u64 (litBin .and .u64 a 4294967295) (litBin .shr .u64 b 32))) 32)) (litBin .and .u64 (IntKind.wrap .u64 (litBin .shr .i64 (IntKind.wrap .i64 a) 63)) b)) (litBin .and .u64 0 a))) (litBin .sub .u64 (litBin .sub .u64 (litBin .add .u64 (litBin .add .u64 (litBin .mul .u64 (litBin .shr .u64 a 32) (litBin .shr .u64 b 32)) (litBin .shr .u64 (litBin .add .u64 (litBin .mul .u64 (litBin .shr .u64 a 32) (litBin .and .u64 b 4294967295)) (litBin .shr .u64 (litBin .mul .u64 (litBin .and .u64 a 4294967295) (litBin .and .u64 b 4294967295)) 32)) 32)) (litBin .shr .u64 (litBin .add .u64 (litBin .and .u64 (litBin .add .u64 (litBin .mul .u64 (litBin .shr .u64 a 32) (litBin .and .u64 b 4294967295)) (litBin .shr .u64 (litBin .mul .u64 (litBin .and .u64 a 4294967295) (litBin .and .u64 b 4294967295)) 32)) 4294967295) (litBin .mul .u64 (litBin .and .u64 a 4294967295) (litBin .shr .u64 b 32))) 32)) (litBin .and .u64 0 b)) (litBin .and .u64 0 a)))
def test10 (a : Int) (b : Int) : Bool := (litCmp .eql (litBin .shr .u64 b 63) 0)
def test11 (a : Int) (b : Int) : Bool := (litCmp .eql (cond (litCmp .eql (litBin .shr .u64 b 63) 1) (litBin .add .u64 (litBin .sub .u64 (litBin .sub .u64 (litBin .add .u64 (litBin .add .u64 (litBin .mul .u64 (litBin .shr .u64 a 32) (litBin .shr .u64 b 32)) (litBin .shr .u64 (litBin .add .u64 (litBin .mul .u64 (litBin .shr .u64 a 32) (litBin .and .u64 b 4294967295)) (litBin .shr .u64 (litBin .mul .u64 (litBin .and .u64 a 4294967295) (litBin .and .u64 b 4294967295)) 32)) 32)) (litBin .shr .u64 (litBin .add .u64 (litBin .and .u64 (litBin .add .u64 (litBin .mul .u64 (litBin .shr .u64 a 32) (litBin .and .u64 b 4294967295)) (litBin .shr .u64 (litBin .mul .u64 (litBin .and .u64 a 4294967295) (litBin .and .u64 b 4294967295)) 32)) 4294967295) (litBin .mul .u64 (litBin .and .u64 a 4294967295) (litBin .shr .u64 b 32))) 32)) (litBin .and .u64 (IntKind.wrap .u64 (litBin .shr .i64 (IntKind.wrap .i64 a) 63)) b)) (litBin .and .u64 (IntKind.wrap .u64 (litBin .shr .i64 (IntKind.wrap .i64 b) 63)) a)) a) (litBin .sub .u64 (litBin .sub .u64 (litBin .add .u64 (litBin .add .u64 (litBin .mul .u64 (litBin .shr .u64 a 32) (litBin .shr .u64 b 32)) (litBin .shr .u64 (litBin .add .u64 (litBin .mul .u64 (litBin .shr .u64 a 32) (litBin .and .u64 b 4294967295)) (litBin .shr .u64 (litBin .mul .u64 (litBin .and .u64 a 4294967295) (litBin .and .u64 b 4294967295)) 32)) 32)) (litBin .shr .u64 (litBin .add .u64 (litBin .and .u64 (litBin .add .u64 (litBin .mul .u64 (litBin .shr .u64 a 32) (litBin .and .u64 b 4294967295)) (litBin .shr .u64 (litBin .mul .u64 (litBin .and .u64 a 4294967295) (litBin .and .u64 b 4294967295)) 32)) 4294967295) (litBin .mul .u64 (litBin .and .u64 a 4294967295) (litBin .shr .u64 b 32))) 32)) (litBin .and .u64 (IntKind.wrap .u64 (litBin .shr .i64 (IntKind.wrap .i64 a) 63)) b)) (litBin .and .u64 (IntKind.wrap .u64 (litBin .shr .i64 (IntKind.wrap .i64 b) 63)) a))) (litBin .sub .u64 (litBin .sub .u64 (litBin .add .u64 (litBin .add .u64 (litBin .mul .u64 (litBin .shr .u64 a 32) (litBin .shr .u64 b 32)) (litBin .shr .u64 (litBin .add .u64 (litBin .mul .u64 (litBin .shr .u64 a 32) (litBin .and .u64 b 4294967295)) (litBin .shr .u64 (litBin .mul .u64 (litBin .and .u64 a 4294967295) (litBin .and .u64 b 4294967295)) 32)) 32)) (litBin .shr .u64 (litBin .add .u64 (litBin .and .u64 (litBin .add .u64 (litBin .mul .u64 (litBin .shr .u64 a 32) (litBin .and .u64 b 4294967295)) (litBin .shr .u64 (litBin .mul .u64 (litBin .and .u64 a 4294967295) (litBin .and .u64 b 4294967295)) 32)) 4294967295) (litBin .mul .u64 (litBin .and .u64 a 4294967295) (litBin .shr .u64 b 32))) 32)) (litBin .and .u64 (IntKind.wrap .u64 (litBin .shr .i64 (IntKind.wrap .i64 a) 63)) b)) (litBin .and .u64 0 a)))
def testB (a : Int) (b : Int) : Bool := (litCmp .eql (litBin .shr .u64 b 63) 1)
def G (a b : Int) : Bool := ((cond (litCmp .eql (IntKind.wrap .i64 b) 0) true (cond (litCmp .eql (IntKind.wrap .i64 b) (-1)) true ((!(litCmp .eql (IntKind.wrap .i64 b) 0)) && (!(litCmp .eql (IntKind.wrap .i64 b) 0))))) && ((cond (litCmp .eql (IntKind.wrap .i64 b) 0) true (cond (litCmp .eql (IntKind.wrap .i64 b) (-1)) true ((!(litCmp .eql (IntKind.wrap .i64 b) 0)) && (!(litCmp .eql (IntKind.wrap .i64 b) 0))))) && ((cond (litCmp .eql b 0) true ((!(litCmp .eql b 0)) && (!(litCmp .eql b 0)))) && ((cond (litCmp .eql b 0) true ((!(litCmp .eql b 0)) && (!(litCmp .eql b 0)))) && ((cond (litCmp .eql (IntKind.wrap .i32 b) 0) true (cond (litCmp .eql (IntKind.wrap .i32 b) (-1)) true ((!(litCmp .eql (IntKind.wrap .i32 b) 0)) && (!(litCmp .eql (IntKind.wrap .i32 b) 0))))) && (cond (litCmp .eql (IntKind.wrap .i32 b) 0) true (cond (litCmp .eql (IntKind.wrap .i32 b) (-1)) true ((!(litCmp .eql (IntKind.wrap .i32 b) 0)) && (!(litCmp .eql (IntKind.wrap .i32 b) 0))))))))))
def V (a b : Int) : Bool := (cond (litCmp .eql (litBin .add .u64 (litBin .mul .u64 (IntKind.wrap .u64 (cond (litCmp .eql (IntKind.wrap .i64 b) 0) (-1) (cond (litCmp .eql (IntKind.wrap .i64 b) (-1)) (litUna .neg .i64 (IntKind.wrap .i64 a)) (litBin .quo .i64 (IntKind.wrap .i64 a) (IntKind.wrap .i64 b))))) (litBin .and .u64 b 18446744073709551615)) (IntKind.wrap .u64 (cond (litCmp .eql (IntKind.wrap .i64 b) 0) (IntKind.wrap .i64 a) (cond (litCmp .eql (IntKind.wrap .i64 b) (-1)) 0 (litBin .rem .i64 (IntKind.wrap .i64 a) (IntKind.wrap .i64 b)))))) a) (cond (litCmp .eql (litBin .add .u64 (litBin .mul .u64 (cond (litCmp .eql b 0) 18446744073709551615 (litBin .quo .u64 a b)) (litBin .and .u64 b 18446744073709551615)) (cond (litCmp .eql b 0) a (litBin .rem .u64 a b))) a) (cond (litCmp .eql (IntKind.wrap .u64 (litBin .shr .i64 (IntKind.wrap .i64 (litBin .shl .u64 (litBin .add .u64 (IntKind.wrap .u64 (litBin .shr .i64 (IntKind.wrap .i64 (litBin .shl .u64 (litBin .mul .u64 (IntKind.wrap .u64 (cond (litCmp .eql (IntKind.wrap .i32 b) 0) (-1) (cond (litCmp .eql (IntKind.wrap .i32 b) (-1)) (litUna .neg .i32 (IntKind.wrap .i32 a)) (litBin .quo .i32 (IntKind.wrap .i32 a) (IntKind.wrap .i32 b))))) b) 32)) 32)) (IntKind.wrap .u64 (cond (litCmp .eql (IntKind.wrap .i32 b) 0) (IntKind.wrap .i32 a) (cond (litCmp .eql (IntKind.wrap .i32 b) (-1)) 0 (litBin .rem .i32 (IntKind.wrap .i32 a) (IntKind.wrap .i32 b)))))) 32)) 32)) (IntKind.wrap .u64 (litBin .shr .i64 (IntKind.wrap .i64 (litBin .shl .u64 (litBin .add .u64 a 0) 32)) 32))) (cond (litCmp .eql (cond (litCmp .eql (litBin .shr .u64 a 63) 1) (litBin .add .u64 (litBin .sub .u64 (litBin .sub .u64 (litBin .add .u64 (litBin .add .u64 (litBin .mul .u64 (litBin .shr .u64 a 32) (litBin .shr .u64 b 32)) (litBin .shr .u64 (litBin .add .u64 (litBin .mul .u64 (litBin .shr .u64 a 32) (litBin .and .u64 b 4294967295)) (litBin .shr .u64 (litBin .mul .u64 (litBin .and .u64 a 4294967295) (litBin .and .u64 b 4294967295)) 32)) 32)) (litBin .shr .u64 (litBin .add .u64 (litBin .and .u64 (litBin .add .u64 (litBin .mul .u64 (litBin .shr .u64 a 32) (litBin .and .u64 b 4294967295)) (litBin .shr .u64 (litBin .mul .u64 (litBin .and .u64 a 4294967295) (litBin .and .u64 b 4294967295)) 32)) 4294967295) (litBin .mul .u64 (litBin .and .u64 a 4294967295) (litBin .shr .u64 b 32))) 32)) (litBin .and .u64 (IntKind.wrap .u64 (litBin .shr .i64 (IntKind.wrap .i64 a) 63)) b)) (litBin .and .u64 0 a)) b) (litBin .sub .u64 (litBin .sub .u64 (litBin .add .u64 (litBin .add .u64 (litBin .mul .u64 (litBin .shr .u64 a 32) (litBin .shr .u64 b 32)) (litBin .shr .u64 (litBin .add .u64 (litBin .mul .u64 (litBin .shr .u64 a 32) (litBin .and .u64 b 4294967295)) (litBin .shr .u64 (litBin .mul .u64 (litBin .and .u64 a 4294967295) (litBin .and .u64 b 4294967295)) 32)) 32)) (litBin .shr .u64 (litBin .add .u64 (litBin .and .u64 (litBin .add .u64 (litBin .mul .u64 (litBin .shr .u64 a 32) (litBin .and .u64 b 4294967295)) (litBin .shr .u64 (litBin .mul .u64 (litBin .and .u64 a 4294967295) (litBin .and .u64 b 4294967295)) 32)) 4294967295) (litBin .mul .u64 (litBin .and .u64 a 4294967295) (litBin .shr .u64 b 32))) 32)) (litBin .and .u64 (IntKind.wrap .u64 (litBin .shr .i64 (IntKind.wrap .i64 a) 63)) b)) (litBin .and .u64 0 a))) (litBin .sub .u64 (litBin .sub .u64 (litBin .add .u64 (litBin .add .u64 (litBin .mul .u64 (litBin .shr .u64 a 32) (litBin .shr .u64 b 32)) (litBin .shr .u64 (litBin .add .u64 (litBin .mul .u64 (litBin .shr .u64 a 32) (litBin .and .u64 b 4294967295)) (litBin .shr .u64 (litBin .mul .u64 (litBin .and .u64 a 4294967295) (litBin .and .u64 b 4294967295)) 32)) 32)) (litBin .shr .u64 (litBin .add .u64 (litBin .and .u64 (litBin .add .u64 (litBin .mul .u64 (litBin .shr .u64 a 32) (litBin .and .u64 b 4294967295)) (litBin .shr .u64 (litBin .mul .u64 (litBin .and .u64 a 4294967295) (litBin .and .u64 b 4294967295)) 32)) 4294967295) (litBin .mul .u64 (litBin .and .u64 a 4294967295) (litBin .shr .u64 b 32))) 32)) (litBin .and .u64 0 b)) (litBin .and .u64 0 a))) (cond (litCmp .eql (litBin .shr .u64 b 63) 0) (cond (litCmp .eql (cond (litCmp .eql (litBin .shr .u64 b 63) 1) (litBin .add .u64 (litBin .sub .u64 (litBin .sub .u64 (litBin .add .u64 (litBin .add .u64 (litBin .mul .u64 (litBin .shr .u64 a 32) (litBin .shr .u64 b 32)) (litBin .shr .u64 (litBin .add .u64 (litBin .mul .u64 (litBin .shr .u64 a 32) (litBin .and .u64 b 4294967295)) (litBin .shr .u64 (litBin .mul .u64 (litBin .and .u64 a 4294967295) (litBin .and .u64 b 4294967295)) 32)) 32)) (litBin .shr .u64 (litBin .add .u64 (litBin .and .u64 (litBin .add .u64 (litBin .mul .u64 (litBin .shr .u64 a 32) (litBin .and .u64 b 4294967295)) (litBin .shr .u64 (litBin .mul .u64 (litBin .and .u64 a 4294967295) (litBin .and .u64 b 4294967295)) 32)) 4294967295) (litBin .mul .u64 (litBin .and .u64 a 4294967295) (litBin .shr .u64 b 32))) 32)) (litBin .and .u64 (IntKind.wrap .u64 (litBin .shr .i64 (IntKind.wrap .i64 a) 63)) b)) (litBin .and .u64 (IntKind.wrap .u64 (litBin .shr .i64 (IntKind.wrap .i64 b) 63)) a)) a) (litBin .sub .u64 (litBin .sub .u64 (litBin .add .u64 (litBin .add .u64 (litBin .mul .u64 (litBin .shr .u64 a 32) (litBin .shr .u64 b 32)) (litBin .shr .u64 (litBin .add .u64 (litBin .mul .u64 (litBin .shr .u64 a 32) (litBin .and .u64 b 4294967295)) (litBin .shr .u64 (litBin .mul .u64 (litBin .and .u64 a 4294967295) (litBin .and .u64 b 4294967295)) 32)) 32)) (litBin .shr .u64 (litBin .add .u64 (litBin .and .u64 (litBin .add .u64 (litBin .mul .u64 (litBin .shr .u64 a 32) (litBin .and .u64 b 4294967295)) (litBin .shr .u64 (litBin .mul .u64 (litBin .and .u64 a 4294967295) (litBin .and .u64 b 4294967295)) 32)) 4294967295) (litBin .mul .u64 (litBin .and .u64 a 4294967295) (litBin .shr .u64 b 32))) 32)) (litBin .and .u64 (IntKind.wrap .u64 (litBin .shr .i64 (IntKind.wrap .i64 a) 63)) b)) (litBin .and .u64 (IntKind.wrap .u64 (litBin .shr .i64 (IntKind.wrap .i64 b) 63)) a))) (litBin .sub .u64 (litBin .sub .u64 (litBin .add .u64 (litBin .add .u64 (litBin .mul .u64 (litBin .shr .u64 a 32) (litBin .shr .u64 b 32)) (litBin .shr .u64 (litBin .add .u64 (litBin .mul .u64 (litBin .shr .u64 a 32) (litBin .and .u64 b 4294967295)) (litBin .shr .u64 (litBin .mul .u64 (litBin .and .u64 a 4294967295) (litBin .and .u64 b 4294967295)) 32)) 32)) (litBin .shr .u64 (litBin .add .u64 (litBin .and .u64 (litBin .add .u64 (litBin .mul .u64 (litBin .shr .u64 a 32) (litBin .and .u64 b 4294967295)) (litBin .shr .u64 (litBin .mul .u64 (litBin .and .u64 a 4294967295) (litBin .and .u64 b 4294967295)) 32)) 4294967295) (litBin .mul .u64 (litBin .and .u64 a 4294967295) (litBin .shr .u64 b 32))) 32)) (litBin .and .u64 (IntKind.wrap .u64 (litBin .shr .i64 (IntKind.wrap .i64 a) 63)) b)) (litBin .and .u64 0 a))) true (cond (litCmp .eql (litBin .shr .u64 b 63) 1) (litCmp .eql (cond (litCmp .eql (litBin .shr .u64 b 63) 1) (litBin .add .u64 (litBin .sub .u64 (litBin .sub .u64 (litBin .add .u64 (litBin .add .u64 (litBin .mul .u64 (litBin .shr .u64 a 32) (litBin .shr .u64 b 32)) (litBin .shr .u64 (litBin .add .u64 (litBin .mul .u64 (litBin .shr .u64 a 32) (litBin .and .u64 b 4294967295)) (litBin .shr .u64 (litBin .mul .u64 (litBin .and .u64 a 4294967295) (litBin .and .u64 b 4294967295)) 32)) 32)) (litBin .shr .u64 (litBin .add .u64 (litBin .and .u64 (litBin .add .u64 (litBin .mul .u64 (litBin .shr .u64 a 32) (litBin .and .u64 b 4294967295)) (litBin .shr .u64 (litBin .mul .u64 (litBin .and .u64 a 4294967295) (litBin .and .u64 b 4294967295)) 32)) 4294967295) (litBin .mul .u64 (litBin .and .u64 a 4294967295) (litBin .shr .u64 b 32))) 32)) (litBin .and .u64 (IntKind.wrap .u64 (litBin .shr .i64 (IntKind.wrap .i64 a) 63)) b)) (litBin .and .u64 (IntKind.wrap .u64 (litBin .shr .i64 (IntKind.wrap .i64 b) 63)) a)) a) (litBin .sub .u64 (litBin .sub .u64 (litBin .add .u64 (litBin .add .u64 (litBin .mul .u64 (litBin .shr .u64 a 32) (litBin .shr .u64 b 32)) (litBin .shr .u64 (litBin .add .u64 (litBin .mul .u64 (litBin .shr .u64 a 32) (litBin .and .u64 b 4294967295)) (litBin .shr .u64 (litBin .mul .u64 (litBin .and .u64 a 4294967295) (litBin .and .u64 b 4294967295)) 32)) 32)) (litBin .shr .u64 (litBin .add .u64 (litBin .and .u64 (litBin .add .u64 (litBin .mul .u64 (litBin .shr .u64 a 32) (litBin .and .u64 b 4294967295)) (litBin .shr .u64 (litBin .mul .u64 (litBin .and .u64 a 4294967295) (litBin .and .u64 b 4294967295)) 32)) 4294967295) (litBin .mul .u64 (litBin .and .u64 a 4294967295) (litBin .shr .u64 b 32))) 32)) (litBin .and .u64 (IntKind.wrap .u64 (litBin .shr .i64 (IntKind.wrap .i64 a) 63)) b)) (litBin .and .u64 (IntKind.wrap .u64 (litBin .shr .i64 (IntKind.wrap .i64 b) 63)) a))) (litBin .sub .u64 (litBin .sub .u64 (litBin .add .u64 (litBin .add .u64 (litBin .mul .u64 (litBin .shr .u64 a 32) (litBin .shr .u64 b 32)) (litBin .shr .u64 (litBin .add .u64 (litBin .mul .u64 (litBin .shr .u64 a 32) (litBin .and .u64 b 4294967295)) (litBin .shr .u64 (litBin .mul .u64 (litBin .and .u64 a 4294967295) (litBin .and .u64 b 4294967295)) 32)) 32)) (litBin .shr .u64 (litBin .add .u64 (litBin .and .u64 (litBin .add .u64 (litBin .mul .u64 (litBin .shr .u64 a 32) (litBin .and .u64 b 4294967295)) (litBin .shr .u64 (litBin .mul .u64 (litBin .and .u64 a 4294967295) (litBin .and .u64 b 4294967295)) 32)) 4294967295) (litBin .mul .u64 (litBin .and .u64 a 4294967295) (litBin .shr .u64 b 32))) 32)) (litBin .and .u64 (IntKind.wrap .u64 (litBin .shr .i64 (IntKind.wrap .i64 a) 63)) b)) (litBin .and .u64 0 a))) false)) (cond (litCmp .eql (litBin .shr .u64 b 63) 1) (litCmp .eql (cond (litCmp .eql (litBin .shr .u64 b 63) 1) (litBin .add .u64 (litBin .sub .u64 (litBin .sub .u64 (litBin .add .u64 (litBin .add .u64 (litBin .mul .u64 (litBin .shr .u64 a 32) (litBin .shr .u64 b 32)) (litBin .shr .u64 (litBin .add .u64 (litBin .mul .u64 (litBin .shr .u64 a 32) (litBin .and .u64 b 4294967295)) (litBin .shr .u64 (litBin .mul .u64 (litBin .and .u64 a 4294967295) (litBin .and .u64 b 4294967295)) 32)) 32)) (litBin .shr .u64 (litBin .add .u64 (litBin .and .u64 (litBin .add .u64 (litBin .mul .u64 (litBin .shr .u64 a 32) (litBin .and .u64 b 4294967295)) (litBin .shr .u64 (litBin .mul .u64 (litBin .and .u64 a 4294967295) (litBin .and .u64 b 4294967295)) 32)) 4294967295) (litBin .mul .u64 (litBin .and .u64 a 4294967295) (litBin .shr .u64 b 32))) 32)) (litBin .and .u64 (IntKind.wrap .u64 (litBin .shr .i64 (IntKind.wrap .i64 a) 63)) b)) (litBin .and .u64 (IntKind.wrap .u64 (litBin .shr .i64 (IntKind.wrap .i64 b) 63)) a)) a) (litBin .sub .u64 (litBin .sub .u64 (litBin .add .u64 (litBin .add .u64 (litBin .mul .u64 (litBin .shr .u64 a 32) (litBin .shr .u64 b 32)) (litBin .shr .u64 (litBin .add .u64 (litBin .mul .u64 (litBin .shr .u64 a 32) (litBin .and .u64 b 4294967295)) (litBin .shr .u64 (litBin .mul .u64 (litBin .and .u64 a 4294967295) (litBin .and .u64 b 4294967295)) 32)) 32)) (litBin .shr .u64 (litBin .add .u64 (litBin .and .u64 (litBin .add .u64 (litBin .mul .u64 (litBin .shr .u64 a 32) (litBin .and .u64 b 4294967295)) (litBin .shr .u64 (litBin .mul .u64 (litBin .and .u64 a 4294967295) (litBin .and .u64 b 4294967295)) 32)) 4294967295) (litBin .mul .u64 (litBin .and .u64 a 4294967295) (litBin .shr .u64 b 32))) 32)) (litBin .and .u64 (IntKind.wrap .u64 (litBin .shr .i64 (IntKind.wrap .i64 a) 63)) b)) (litBin .and .u64 (IntKind.wrap .u64 (litBin .shr .i64 (IntKind.wrap .i64 b) 63)) a))) (litBin .sub .u64 (litBin .sub .u64 (litBin .add .u64 (litBin .add .u64 (litBin .mul .u64 (litBin .shr .u64 a 32) (litBin .shr .u64 b 32)) (litBin .shr .u64 (litBin .add .u64 (litBin .mul .u64 (litBin .shr .u64 a 32) (litBin .and .u64 b 4294967295)) (litBin .shr .u64 (litBin .mul .u64 (litBin .and .u64 a 4294967295) (litBin .and .u64 b 4294967295)) 32)) 32)) (litBin .shr .u64 (litBin .add .u64 (litBin .and .u64 (litBin .add .u64 (litBin .mul .u64 (litBin .shr .u64 a 32) (litBin .and .u64 b 4294967295)) (litBin .shr .u64 (litBin .mul .u64 (litBin .and .u64 a 4294967295) (litBin .and .u64 b 4294967295)) 32)) 4294967295) (litBin .mul .u64 (litBin .and .u64 a 4294967295) (litBin .shr .u64 b 32))) 32)) (litBin .and .u64 (IntKind.wrap .u64 (litBin .shr .i64 (IntKind.wrap .i64 a) 63)) b)) (litBin .and .u64 0 a))) false)) false) false) false) false)
set_option maxRecDepth 100000 in
theorem road (a b : Int) : ((call Try.prog cxp 400 17 [.int .u64 (.sym a), .int .u64 (.sym b)] []).route [true]).map (fun p => (p.1, p.2.1)) = some ([G a b], .val (.bool (.sym (V a b)))) := by kernel_rfl

theorem shr_u32 (x : Int) : litBin .shr .u64 x 32 = x / 4294967296 := by
  show Int.fdiv x (2 ^ (min ((32 : Int).toNat) 64)) = _
  rw [Int.fdiv_eq_ediv_of_nonneg _ (by decide)]
  rfl
theorem and_m {x : Int} (h : inU x) : litBin .and .u64 x 4294967295 = x % 4294967296 := by
  obtain ⟨n, rfl, hn⟩ := h.nat
  have e : litBin .and .u64 (n : Int) 4294967295 = ((n &&& 4294967295 : Nat) : Int) := and_nat hn (y := 4294967295) (by decide)
  have e2 : n &&& 4294967295 = n % 4294967296 := Nat.and_two_pow_sub_one_eq_mod n 32
  rw [e, e2]
  omega
theorem mulB {x y : Int} (hx : 0 ≤ x ∧ x ≤ 4294967295) (hy : 0 ≤ y ∧ y ≤ 4294967295) : 0 ≤ x * y ∧ x * y ≤ 18446744065119617025 := by
  refine ⟨Int.mul_nonneg hx.1 hy.1, ?_⟩
  have := Int.mul_le_mul hx.2 hy.2 hy.1 (by decide : (0 : Int) ≤ 4294967295)
  omega
theorem prod (a1 a0 b1 b0 : Int) : (4294967296 * a1 + a0) * (4294967296 * b1 + b0) = 18446744073709551616 * (a1 * b1) + 4294967296 * (a1 * b0) + 4294967296 * (a0 * b1) + a0 * b0 := by grind
theorem hiE {a b : Int} (ha : inU a) (hb : inU b) : (litBin .add .u64 (litBin .add .u64 (litBin .mul .u64 (litBin .shr .u64 a 32) (litBin .shr .u64 b 32)) (litBin .shr .u64 (litBin .add .u64 (litBin .mul .u64 (litBin .shr .u64 a 32) (litBin .and .u64 b 4294967295)) (litBin .shr .u64 (litBin .mul .u64 (litBin .and .u64 a 4294967295) (litBin .and .u64 b 4294967295)) 32)) 32)) (litBin .shr .u64 (litBin .add .u64 (litBin .and .u64 (litBin .add .u64 (litBin .mul .u64 (litBin .shr .u64 a 32) (litBin .and .u64 b 4294967295)) (litBin .shr .u64 (litBin .mul .u64 (litBin .and .u64 a 4294967295) (litBin .and .u64 b 4294967295)) 32)) 4294967295) (litBin .mul .u64 (litBin .and .u64 a 4294967295) (litBin .shr .u64 b 32))) 32)) = a * b / 18446744073709551616 := by
  rw [and_m (inU.add _ _), and_m ha, and_m hb]
  simp only [shr_u32, add_eq, mul_eq]
  have ea := Int.mul_ediv_add_emod a 4294967296
  have eb := Int.mul_ediv_add_emod b 4294967296
  unfold inU at ha hb
  have h := prod (a / 4294967296) (a % 4294967296) (b / 4294967296) (b % 4294967296)
  rw [ea, eb] at h
  rw [h]
  have m1 := mulB (x := a / 4294967296) (y := b / 4294967296) (by omega) (by omega)
  have m2 := mulB (x := a / 4294967296) (y := b % 4294967296) (by omega) (by omega)
  have m3 := mulB (x := a % 4294967296) (y := b / 4294967296) (by omega) (by omega)
  have m4 := mulB (x := a % 4294967296) (y := b % 4294967296) (by omega) (by omega)
  clear h ea eb
  generalize a / 4294967296 * (b / 4294967296) = p11 at *
  generalize a / 4294967296 * (b % 4294967296) = p10 at *
  generalize a % 4294967296 * (b / 4294967296) = p01 at *
  generalize a % 4294967296 * (b % 4294967296) = p00 at *
  clear ha hb
  rw [Int.emod_eq_of_lt (a := p11) (by omega) (by omega), Int.emod_eq_of_lt (a := p10) (by omega) (by omega), Int.emod_eq_of_lt (a := p01) (by omega) (by omega), Int.emod_eq_of_lt (a := p00) (by omega) (by omega), Int.emod_eq_of_lt (a := p10 + p00 / 4294967296) (by omega) (by omega)]
  omega
theorem and_z (b : Int) (hb : inU b) : litBin .and .u64 0 b = 0 := by
  obtain ⟨n, rfl, hn⟩ := hb.nat
  have e : litBin .and .u64 0 (n : Int) = ((0 &&& n : Nat) : Int) := and_nat (x := 0) (by decide) hn
  rw [e, Nat.zero_and]
  rfl
theorem all_and (b : Int) (hb : inU b) : litBin .and .u64 18446744073709551615 b = b := by
  obtain ⟨n, rfl, hn⟩ := hb.nat
  have e : litBin .and .u64 18446744073709551615 (n : Int) = ((18446744073709551615 &&& n : Nat) : Int) := and_nat (x := 18446744073709551615) (by decide) hn
  have e2 : n &&& 18446744073709551615 = n % 18446744073709551616 := Nat.and_two_pow_sub_one_eq_mod n 64
  rw [e, Nat.and_comm, e2, Nat.mod_eq_of_lt hn]
theorem md (x y z : Int) : (sx x * y + sx z) % 4294967296 = (x * y + z) % 4294967296 := by
  rw [Int.add_emod, Int.mul_emod, sx_mod, sx_mod, ← Int.mul_emod, ← Int.add_emod]
theorem low (x y z : Int) : (litBin .add .u64 (litBin .mul .u64 x y) z) % 4294967296 = (x * y + z) % 4294967296 := by
  rw [add_eq, mul_eq]
  generalize x * y = t
  omega
theorem two {a b : Int} : sx (litBin .add .u64 (litBin .mul .u64 (IntKind.wrap .u64 (cond (litCmp .eql (IntKind.wrap .i32 b) 0) (-1) (cond (litCmp .eql (IntKind.wrap .i32 b) (-1)) (litUna .neg .i32 (IntKind.wrap .i32 a)) (litBin .quo .i32 (IntKind.wrap .i32 a) (IntKind.wrap .i32 b))))) b) (IntKind.wrap .u64 (cond (litCmp .eql (IntKind.wrap .i32 b) 0) (IntKind.wrap .i32 a) (cond (litCmp .eql (IntKind.wrap .i32 b) (-1)) 0 (litBin .rem .i32 (IntKind.wrap .i32 a) (IntKind.wrap .i32 b)))))) = sx a := by
  refine sx_congr ?_
  have hB := wrapi32 b
  have hA := wrapi32 a
  generalize IntKind.i32.wrap b = B at *
  generalize IntKind.i32.wrap a = A at *
  have key : ∀ q r : Int, (q * B + r) % 4294967296 = A % 4294967296 → (litBin .add .u64 (litBin .mul .u64 (IntKind.wrap .u64 q) b) (IntKind.wrap .u64 r)) % 4294967296 = a % 4294967296 := by
    intro q r h
    rw [low, Int.add_emod, Int.mul_emod, Ev.wrap64, Ev.wrap64, show q % 18446744073709551616 % 4294967296 = q % 4294967296 by omega, show r % 18446744073709551616 % 4294967296 = r % 4294967296 by omega, show b % 4294967296 = B % 4294967296 by omega, ← Int.mul_emod, ← Int.add_emod, h]
    omega
  refine key _ _ ?_
  by_cases h : B = 0
  · rw [eql_of h, cond_true, cond_true, h]
    omega
  · have e : litCmp .eql B 0 = false := decide_eq_false h
    rw [e, cond_false, cond_false]
    by_cases h' : B = -1
    · have e2 : litUna .neg .i32 A = IntKind.i32.wrap (0 - A) := rfl
      rw [eql_of h', cond_true, cond_true, h', e2, wrapi32]
      omega
    · have e' : litCmp .eql B (-1) = false := decide_eq_false h'
      have e2 : litBin .quo .i32 A B = IntKind.i32.wrap (A.tdiv B) := rfl
      have e3 : litBin .rem .i32 A B = A.tmod B := rfl
      rw [e', cond_false, cond_false, e2, e3, wrapi32, Int.add_emod, Int.mul_emod, show ((A.tdiv B + 2147483648) % 4294967296 - 2147483648) % 4294967296 = A.tdiv B % 4294967296 by omega, ← Int.mul_emod, ← Int.add_emod, Int.add_comm, Int.tmod_add_tdiv_mul]

theorem guards {B : Int} : (cond (litCmp .eql B 0) true (!(litCmp .eql B 0) && !(litCmp .eql B 0))) = true := by cases litCmp .eql B 0 <;> rfl
theorem guards2 {B : Int} : (cond (litCmp .eql B 0) true (cond (litCmp .eql B (-1)) true (!(litCmp .eql B 0) && !(litCmp .eql B 0)))) = true := by cases litCmp .eql B 0 <;> cases litCmp .eql B (-1) <;> rfl

theorem signE2 {a b : Int} (ha : inU a) (hb : inU b) : litBin .and .u64 (IntKind.wrap .u64 (litBin .shr .i64 (IntKind.wrap .i64 a) 63)) b = cond (decide (9223372036854775808 ≤ a)) b 0 := by
  have ha' := ha
  unfold inU at ha'
  rw [Ev.wrap64, shr63i, wrapi]
  by_cases h : 9223372036854775808 ≤ a
  · rw [decide_eq_true h]
    have e : ((a + 9223372036854775808) % 18446744073709551616 - 9223372036854775808) / 9223372036854775808 % 18446744073709551616 = 18446744073709551615 := by omega
    rw [e]
    exact all_and b hb
  · rw [decide_eq_false h]
    have e : ((a + 9223372036854775808) % 18446744073709551616 - 9223372036854775808) / 9223372036854775808 % 18446744073709551616 = 0 := by omega
    rw [e]
    exact and_z b hb
theorem md64 (x y z : Int) : ((x % 18446744073709551616 * y) % 18446744073709551616 + z % 18446744073709551616) % 18446744073709551616 = (x * y + z) % 18446744073709551616 := by
  simp [Int.add_emod, Int.mul_emod]
theorem low64 (x y z : Int) : litBin .add .u64 (litBin .mul .u64 x y) z = (x * y + z) % 18446744073709551616 := by
  rw [add_eq, mul_eq]
  generalize x * y = t
  omega
theorem t6 {a b : Int} (ha : inU a) : litBin .add .u64 (litBin .mul .u64 (IntKind.wrap .u64 (cond (litCmp .eql (IntKind.wrap .i64 b) 0) (-1) (cond (litCmp .eql (IntKind.wrap .i64 b) (-1)) (litUna .neg .i64 (IntKind.wrap .i64 a)) (litBin .quo .i64 (IntKind.wrap .i64 a) (IntKind.wrap .i64 b))))) b) (IntKind.wrap .u64 (cond (litCmp .eql (IntKind.wrap .i64 b) 0) (IntKind.wrap .i64 a) (cond (litCmp .eql (IntKind.wrap .i64 b) (-1)) 0 (litBin .rem .i64 (IntKind.wrap .i64 a) (IntKind.wrap .i64 b))))) = a := by
  unfold inU at ha
  have hB := wrapi b
  have hA := wrapi a
  generalize IntKind.i64.wrap b = B at *
  generalize IntKind.i64.wrap a = A at *
  have key : ∀ q r : Int, (q * B + r) % 18446744073709551616 = A % 18446744073709551616 → litBin .add .u64 (litBin .mul .u64 (IntKind.wrap .u64 q) b) (IntKind.wrap .u64 r) = a := by
    intro q r h
    rw [low64, Ev.wrap64, Ev.wrap64, Int.add_emod, Int.mul_emod, Int.emod_emod, Int.emod_emod, show b % 18446744073709551616 = B % 18446744073709551616 by omega, ← Int.mul_emod, ← Int.add_emod, h]
    omega
  refine key _ _ ?_
  by_cases h : B = 0
  · rw [eql_of h, cond_true, cond_true, h]
    omega
  · have e : litCmp .eql B 0 = false := decide_eq_false h
    rw [e, cond_false, cond_false]
    by_cases h' : B = -1
    · have e2 : litUna .neg .i64 A = IntKind.i64.wrap (0 - A) := rfl
      rw [eql_of h', cond_true, cond_true, h', e2, wrapi]
      omega
    · have e' : litCmp .eql B (-1) = false := decide_eq_false h'
      have e2 : litBin .quo .i64 A B = IntKind.i64.wrap (A.tdiv B) := rfl
      have e3 : litBin .rem .i64 A B = A.tmod B := rfl
      rw [e', cond_false, cond_false, e2, e3, wrapi, Int.add_emod, Int.mul_emod, show ((A.tdiv B + 9223372036854775808) % 18446744073709551616 - 9223372036854775808) % 18446744073709551616 = A.tdiv B % 18446744073709551616 by omega, ← Int.mul_emod, ← Int.add_emod, Int.add_comm, Int.tmod_add_tdiv_mul]
theorem t7 {a b : Int} (ha : inU a) (hb : inU b) : litBin .add .u64 (litBin .mul .u64 (cond (litCmp .eql b 0) 18446744073709551615 (litBin .quo .u64 a b)) b) (cond (litCmp .eql b 0) a (litBin .rem .u64 a b)) = a := by
  unfold inU at ha hb
  rw [low64]
  by_cases h : b = 0
  · rw [eql_of h, cond_true, cond_true, h]
    omega
  · have e : litCmp .eql b 0 = false := decide_eq_false h
    have e2 : litBin .quo .u64 a b = (a.tdiv b) % 18446744073709551616 := Ev.wrap64 _
    have e3 : litBin .rem .u64 a b = a.tmod b := rfl
    rw [e, cond_false, cond_false, e2, e3, Int.add_emod, Int.mul_emod, Int.emod_emod, ← Int.mul_emod, ← Int.add_emod, Int.add_comm, Int.tmod_add_tdiv_mul]
    omega
theorem t8 {a b : Int} : sx (litBin .add .u64 (sx (litBin .mul .u64 (IntKind.wrap .u64 (cond (litCmp .eql (IntKind.wrap .i32 b) 0) (-1) (cond (litCmp .eql (IntKind.wrap .i32 b) (-1)) (litUna .neg .i32 (IntKind.wrap .i32 a)) (litBin .quo .i32 (IntKind.wrap .i32 a) (IntKind.wrap .i32 b))))) b)) (IntKind.wrap .u64 (cond (litCmp .eql (IntKind.wrap .i32 b) 0) (IntKind.wrap .i32 a) (cond (litCmp .eql (IntKind.wrap .i32 b) (-1)) 0 (litBin .rem .i32 (IntKind.wrap .i32 a) (IntKind.wrap .i32 b)))))) = sx (litBin .add .u64 a 0) := by
  have e : sx (litBin .add .u64 a 0) = sx a := sx_congr (by rw [add_eq]; omega)
  rw [e, ← @two a b]
  refine sx_congr ?_
  rw [add_eq, add_eq]
  have := sx_mod (litBin .mul .u64 (IntKind.wrap .u64 (cond (litCmp .eql (IntKind.wrap .i32 b) 0) (-1) (cond (litCmp .eql (IntKind.wrap .i32 b) (-1)) (litUna .neg .i32 (IntKind.wrap .i32 a)) (litBin .quo .i32 (IntKind.wrap .i32 a) (IntKind.wrap .i32 b))))) b)
  omega
theorem law {a b : Int} (wa : (Lit.int .u64 a).wf = true) (wb : (Lit.int .u64 b).wf = true) : [test0 a b, test1 a b, test2 a b, test3 a b, test4 a b, test5 a b, test6 a b, test7 a b, test8 a b, test9 a b] = [true, true, true, true, true, true, true, true, true, true] ∧ test11 a b = true := by
  have ha := inU_wf wa
  have hb := inU_wf wb
  have k9 : test9 a b = true := by
    unfold test9
    rw [hiE ha hb, signE2 ha hb, and_z a ha, and_z b hb, shr63]
    refine eql_of ?_
    simp only [sub_eq, add_eq]
    generalize a * b / 18446744073709551616 = H
    unfold inU at ha hb
    by_cases h : 9223372036854775808 ≤ a
    · rw [eql_of (show a / 9223372036854775808 = 1 by omega), decide_eq_true h, cond_true, cond_true]
      omega
    · have e : litCmp .eql (a / 9223372036854775808) 1 = false := decide_eq_false (by omega)
      rw [e, decide_eq_false h, cond_false, cond_false]
  have k11 : test11 a b = true := by
    unfold test11
    rw [hiE ha hb, signE2 ha hb, signE2 hb ha, and_z a ha, shr63]
    refine eql_of ?_
    simp only [sub_eq, add_eq]
    generalize (a * b / 18446744073709551616 - (cond (decide (9223372036854775808 ≤ a)) b 0)) % 18446744073709551616 = H
    unfold inU at ha hb
    by_cases h : 9223372036854775808 ≤ b
    · rw [eql_of (show b / 9223372036854775808 = 1 by omega), decide_eq_true h, cond_true, cond_true]
      omega
    · have e : litCmp .eql (b / 9223372036854775808) 1 = false := decide_eq_false (by omega)
      rw [e, decide_eq_false h, cond_false, cond_false]
  refine ⟨?_, k11⟩
  have k6 : test6 a b = true := by unfold test6; rw [and_all hb, t6 ha]; exact eql_self _
  have k7 : test7 a b = true := by unfold test7; rw [and_all hb, t7 ha hb]; exact eql_self _
  have k8 : test8 a b = true := by unfold test8; rw [sx32, sx32, sx32, t8]; exact eql_self _
  rw [k6, k7, k8, k9]
  unfold test0 test1 test2 test3 test4 test5
  rw [guards2, guards, guards2]

theorem both {a b : Int} (wa : (Lit.int .u64 a).wf = true) (wb : (Lit.int .u64 b).wf = true) : G a b = true ∧ V a b = true := by
  have hb := inU_wf wb
  unfold inU at hb
  obtain ⟨l1, l2⟩ := law wa wb
  simp only [List.cons.injEq, and_true] at l1
  obtain ⟨c0, c1, c2, c3, c4, c5, c6, c7, c8, c9⟩ := l1
  unfold test6 at c6
  unfold test7 at c7
  unfold test8 at c8
  unfold test9 at c9
  unfold test11 at l2
  constructor
  · unfold G
    simp only [guards, guards2]
    rfl
  · unfold V
    by_cases h : 9223372036854775808 ≤ b
    · have hB : litCmp .eql (litBin .shr .u64 b 63) 1 = true := by rw [shr63]; exact eql_of (by omega)
      have h10 : litCmp .eql (litBin .shr .u64 b 63) 0 = false := by rw [shr63]; exact decide_eq_false (by omega)
      simp only [hB, cond_true] at l2
      simp only [c6, c7, c8, c9, h10, hB, l2, cond_true, cond_false]
    · have hB : litCmp .eql (litBin .shr .u64 b 63) 1 = false := by rw [shr63]; exact decide_eq_false (by omega)
      have h10 : litCmp .eql (litBin .shr .u64 b 63) 0 = true := by rw [shr63]; exact eql_of (by omega)
      simp only [hB, cond_false] at l2
      simp only [c6, c7, c8, c9, h10, hB, l2, cond_true, cond_false]

theorem sums (a b : Int) (wa : (Lit.int .u64 a).wf = true) (wb : (Lit.int .u64 b).wf = true) :
    ∃ c : Bool, (call Try.prog cxp 400 17 [.int .u64 (.sym a), .int .u64 (.sym b)] []).pick.map (·.1) = some (.val (.bool (.sym c))) ∧ c = true :=
  ⟨_, route_pick1 (road a b) (by rw [(both wa wb).1]), (both wa wb).2⟩

set_option maxRecDepth 100000 in
set_option maxHeartbeats 4000000 in
theorem run : ∀ vs, ArgsOk [.one (.int .u64), .one (.int .u64)] vs → ∀ w, Calls Try.prog 17 vs.toArray w fun e w' => e = .returned (.bool true) ∧ Below w.heap.size w w' := by
  intro vs h w
  obtain ⟨_, _, rfl, ⟨a, rfl, wa⟩, _, _, rfl, ⟨b, rfl, wb⟩, rfl⟩ := h
  obtain ⟨c, k1, k2⟩ := sums a b wa wb
  have k3 := (rfl : List.map absV [.int .u64 a, .int .u64 b] = [.int .u64 (.sym a), .int .u64 (.sym b)])
  have k4 := law_true2 cxp_ok k3 k1 k2 w
  exact k4

set_option maxRecDepth 100000 in
theorem lifted (os : Os) (started : os.Started) (H : Type) (enc : TypeId × Value → H) :
    ReturnsInHanded {} Try.checked os 17 .any (Rows.aluDividesSpec.pre6 enc Try.prog Try.f17 Rows.aluDividesRow.domain false) (Rows.aluDividesSpec.post enc Try.prog Try.f17 false true false false) := by
  refine returnsInHanded_of_change (C := Try.checked) own started (by kernel_rfl) Try.func17
    (ChangeSpec.witness6 (enc := enc) (C := Try.checked) false ⟨#[], #[.int .u64 0, .int .u64 0], []⟩ 8 (by kernel_rfl) (by kernel_rfl) (by kernel_rfl) (by kernel_rfl)) ?_
  intro W base args ds gs before hval hW _ _
  exact lifted_plain (P := Try.prog) (f := 17) (fn := Try.f17) (s := Rows.aluDividesSpec) (tb := 4) rfl
    (fun ds h => by
      match ds, h with
      | [d1, d2], _ => rfl)
    (by kernel_rfl) rfl (by kernel_rfl) run W base args ds gs before hval hW

theorem over : Rows.aluDividesRow.holds Try.pinned (OpenSpec.ofChange Rows.aluDividesSpec) :=
  OpenClaim.holds_of_wide 17 Try.f17 rfl rfl rfl rfl rfl rfl rfl ⟨rfl, rfl, rfl, rfl, rfl⟩ rfl rfl rfl rfl rfl (by kernel_rfl) Try.func17 (by kernel_rfl)
    (of_decide_eq_true (by kernel_rfl)) (by unfold Func.isWrapper; first | (rw [if_pos (by decide +kernel)]; kernel_rfl) | (rw [if_neg (by decide +kernel)]; exact ⟨rfl, rfl⟩))
    (fun os started H enc _ => lifted os started H enc)

/-- The statement. -/
theorem proved : Rows.AluDividesSaid :=
  over
#print axioms proved
end Go.Proofs.Ytgljicadcegilaa.AluDivides
