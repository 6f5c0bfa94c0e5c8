/- The statement 'WordSmall': what is divided of 32 bits is of the lower halves alone, and is what is divided of these, extended. Conditions: none. -/
import Derived.Test.YtgljicadcegilaaWords
namespace Go.Proofs.Ytgljicadcegilaa.WordSmall
open Go.RowKit Go.WideShapes Go.ChangeShapes Go.ChangeAt Ev
set_option linter.unusedVariables false
set_option linter.unusedSimpArgs false

def test0 (a : Int) (b : Int) (h : Int) (k : Int) : Bool := (((cond (litCmp .eql (IntKind.wrap .u32 b) 0) true ((!(litCmp .eql (IntKind.wrap .u32 b) 0)) && (!(litCmp .eql (IntKind.wrap .u32 b) 0)))) && ((cond (litCmp .eql (IntKind.wrap .u32 (litBin .add .u64 (litBin .rem .u64 b 4294967296) (litBin .shl .u64 (IntKind.wrap .u64 k) 32))) 0) true ((!(litCmp .eql (IntKind.wrap .u32 (litBin .add .u64 (litBin .rem .u64 b 4294967296) (litBin .shl .u64 (IntKind.wrap .u64 k) 32))) 0)) && (!(litCmp .eql (IntKind.wrap .u32 (litBin .add .u64 (litBin .rem .u64 b 4294967296) (litBin .shl .u64 (IntKind.wrap .u64 k) 32))) 0)))) && (cond (litCmp .neq (IntKind.wrap .u64 (litBin .shr .i64 (IntKind.wrap .i64 (litBin .shl .u64 (IntKind.wrap .u64 (cond (litCmp .eql (IntKind.wrap .u32 b) 0) 4294967295 (litBin .quo .u32 (IntKind.wrap .u32 a) (IntKind.wrap .u32 b)))) 32)) 32)) (IntKind.wrap .u64 (litBin .shr .i64 (IntKind.wrap .i64 (litBin .shl .u64 (IntKind.wrap .u64 (cond (litCmp .eql (IntKind.wrap .u32 (litBin .add .u64 (litBin .rem .u64 b 4294967296) (litBin .shl .u64 (IntKind.wrap .u64 k) 32))) 0) 4294967295 (litBin .quo .u32 (IntKind.wrap .u32 (litBin .add .u64 (litBin .rem .u64 a 4294967296) (litBin .shl .u64 (IntKind.wrap .u64 h) 32))) (IntKind.wrap .u32 (litBin .add .u64 (litBin .rem .u64 b 4294967296) (litBin .shl .u64 (IntKind.wrap .u64 k) 32)))))) 32)) 32))) true ((cond (litCmp .eql (IntKind.wrap .u32 b) 0) true ((!(litCmp .eql (IntKind.wrap .u32 b) 0)) && (!(litCmp .eql (IntKind.wrap .u32 b) 0)))) && (cond (litCmp .eql (IntKind.wrap .u32 (litBin .add .u64 (litBin .rem .u64 b 4294967296) (litBin .shl .u64 (IntKind.wrap .u64 k) 32))) 0) true ((!(litCmp .eql (IntKind.wrap .u32 (litBin .add .u64 (litBin .rem .u64 b 4294967296) (litBin .shl .u64 (IntKind.wrap .u64 k) 32))) 0)) && (!(litCmp .eql (IntKind.wrap .u32 (litBin .add .u64 (litBin .rem .u64 b 4294967296) (litBin .shl .u64 (IntKind.wrap .u64 k) 32))) 0)))))))) && (cond (cond (litCmp .neq (IntKind.wrap .u64 (litBin .shr .i64 (IntKind.wrap .i64 (litBin .shl .u64 (IntKind.wrap .u64 (cond (litCmp .eql (IntKind.wrap .u32 b) 0) 4294967295 (litBin .quo .u32 (IntKind.wrap .u32 a) (IntKind.wrap .u32 b)))) 32)) 32)) (IntKind.wrap .u64 (litBin .shr .i64 (IntKind.wrap .i64 (litBin .shl .u64 (IntKind.wrap .u64 (cond (litCmp .eql (IntKind.wrap .u32 (litBin .add .u64 (litBin .rem .u64 b 4294967296) (litBin .shl .u64 (IntKind.wrap .u64 k) 32))) 0) 4294967295 (litBin .quo .u32 (IntKind.wrap .u32 (litBin .add .u64 (litBin .rem .u64 a 4294967296) (litBin .shl .u64 (IntKind.wrap .u64 h) 32))) (IntKind.wrap .u32 (litBin .add .u64 (litBin .rem .u64 b 4294967296) (litBin .shl .u64 (IntKind.wrap .u64 k) 32)))))) 32)) 32))) true (litCmp .neq (IntKind.wrap .u64 (litBin .shr .i64 (IntKind.wrap .i64 (litBin .shl .u64 (IntKind.wrap .u64 (cond (litCmp .eql (IntKind.wrap .u32 b) 0) (IntKind.wrap .u32 a) (litBin .rem .u32 (IntKind.wrap .u32 a) (IntKind.wrap .u32 b)))) 32)) 32)) (IntKind.wrap .u64 (litBin .shr .i64 (IntKind.wrap .i64 (litBin .shl .u64 (IntKind.wrap .u64 (cond (litCmp .eql (IntKind.wrap .u32 (litBin .add .u64 (litBin .rem .u64 b 4294967296) (litBin .shl .u64 (IntKind.wrap .u64 k) 32))) 0) (IntKind.wrap .u32 (litBin .add .u64 (litBin .rem .u64 a 4294967296) (litBin .shl .u64 (IntKind.wrap .u64 h) 32))) (litBin .rem .u32 (IntKind.wrap .u32 (litBin .add .u64 (litBin .rem .u64 a 4294967296) (litBin .shl .u64 (IntKind.wrap .u64 h) 32))) (IntKind.wrap .u32 (litBin .add .u64 (litBin .rem .u64 b 4294967296) (litBin .shl .u64 (IntKind.wrap .u64 k) 32)))))) 32)) 32)))) true (((cond (litCmp .eql (IntKind.wrap .i32 b) 0) true (cond (litCmp .eql (IntKind.wrap .i32 b) (-1)) true ((!(litCmp .eql (IntKind.wrap .i32 b) 0)) && (!(litCmp .eql (IntKind.wrap .i32 b) 0))))) && ((cond (litCmp .eql (IntKind.wrap .i32 (litBin .add .u64 (litBin .rem .u64 b 4294967296) (litBin .shl .u64 (IntKind.wrap .u64 k) 32))) 0) true (cond (litCmp .eql (IntKind.wrap .i32 (litBin .add .u64 (litBin .rem .u64 b 4294967296) (litBin .shl .u64 (IntKind.wrap .u64 k) 32))) (-1)) true ((!(litCmp .eql (IntKind.wrap .i32 (litBin .add .u64 (litBin .rem .u64 b 4294967296) (litBin .shl .u64 (IntKind.wrap .u64 k) 32))) 0)) && (!(litCmp .eql (IntKind.wrap .i32 (litBin .add .u64 (litBin .rem .u64 b 4294967296) (litBin .shl .u64 (IntKind.wrap .u64 k) 32))) 0))))) && (cond (litCmp .neq (IntKind.wrap .u64 (cond (litCmp .eql (IntKind.wrap .i32 b) 0) (-1) (cond (litCmp .eql (IntKind.wrap .i32 b) (-1)) (litUna .neg .i32 (IntKind.wrap .i32 a)) (litBin .quo .i32 (IntKind.wrap .i32 a) (IntKind.wrap .i32 b))))) (IntKind.wrap .u64 (cond (litCmp .eql (IntKind.wrap .i32 (litBin .add .u64 (litBin .rem .u64 b 4294967296) (litBin .shl .u64 (IntKind.wrap .u64 k) 32))) 0) (-1) (cond (litCmp .eql (IntKind.wrap .i32 (litBin .add .u64 (litBin .rem .u64 b 4294967296) (litBin .shl .u64 (IntKind.wrap .u64 k) 32))) (-1)) (litUna .neg .i32 (IntKind.wrap .i32 (litBin .add .u64 (litBin .rem .u64 a 4294967296) (litBin .shl .u64 (IntKind.wrap .u64 h) 32)))) (litBin .quo .i32 (IntKind.wrap .i32 (litBin .add .u64 (litBin .rem .u64 a 4294967296) (litBin .shl .u64 (IntKind.wrap .u64 h) 32))) (IntKind.wrap .i32 (litBin .add .u64 (litBin .rem .u64 b 4294967296) (litBin .shl .u64 (IntKind.wrap .u64 k) 32)))))))) true ((cond (litCmp .eql (IntKind.wrap .i32 b) 0) true (cond (litCmp .eql (IntKind.wrap .i32 b) (-1)) true ((!(litCmp .eql (IntKind.wrap .i32 b) 0)) && (!(litCmp .eql (IntKind.wrap .i32 b) 0))))) && (cond (litCmp .eql (IntKind.wrap .i32 (litBin .add .u64 (litBin .rem .u64 b 4294967296) (litBin .shl .u64 (IntKind.wrap .u64 k) 32))) 0) true (cond (litCmp .eql (IntKind.wrap .i32 (litBin .add .u64 (litBin .rem .u64 b 4294967296) (litBin .shl .u64 (IntKind.wrap .u64 k) 32))) (-1)) true ((!(litCmp .eql (IntKind.wrap .i32 (litBin .add .u64 (litBin .rem .u64 b 4294967296) (litBin .shl .u64 (IntKind.wrap .u64 k) 32))) 0)) && (!(litCmp .eql (IntKind.wrap .i32 (litBin .add .u64 (litBin .rem .u64 b 4294967296) (litBin .shl .u64 (IntKind.wrap .u64 k) 32))) 0))))))))) && (cond (cond (litCmp .neq (IntKind.wrap .u64 (cond (litCmp .eql (IntKind.wrap .i32 b) 0) (-1) (cond (litCmp .eql (IntKind.wrap .i32 b) (-1)) (litUna .neg .i32 (IntKind.wrap .i32 a)) (litBin .quo .i32 (IntKind.wrap .i32 a) (IntKind.wrap .i32 b))))) (IntKind.wrap .u64 (cond (litCmp .eql (IntKind.wrap .i32 (litBin .add .u64 (litBin .rem .u64 b 4294967296) (litBin .shl .u64 (IntKind.wrap .u64 k) 32))) 0) (-1) (cond (litCmp .eql (IntKind.wrap .i32 (litBin .add .u64 (litBin .rem .u64 b 4294967296) (litBin .shl .u64 (IntKind.wrap .u64 k) 32))) (-1)) (litUna .neg .i32 (IntKind.wrap .i32 (litBin .add .u64 (litBin .rem .u64 a 4294967296) (litBin .shl .u64 (IntKind.wrap .u64 h) 32)))) (litBin .quo .i32 (IntKind.wrap .i32 (litBin .add .u64 (litBin .rem .u64 a 4294967296) (litBin .shl .u64 (IntKind.wrap .u64 h) 32))) (IntKind.wrap .i32 (litBin .add .u64 (litBin .rem .u64 b 4294967296) (litBin .shl .u64 (IntKind.wrap .u64 k) 32)))))))) true (litCmp .neq (IntKind.wrap .u64 (cond (litCmp .eql (IntKind.wrap .i32 b) 0) (IntKind.wrap .i32 a) (cond (litCmp .eql (IntKind.wrap .i32 b) (-1)) 0 (litBin .rem .i32 (IntKind.wrap .i32 a) (IntKind.wrap .i32 b))))) (IntKind.wrap .u64 (cond (litCmp .eql (IntKind.wrap .i32 (litBin .add .u64 (litBin .rem .u64 b 4294967296) (litBin .shl .u64 (IntKind.wrap .u64 k) 32))) 0) (IntKind.wrap .i32 (litBin .add .u64 (litBin .rem .u64 a 4294967296) (litBin .shl .u64 (IntKind.wrap .u64 h) 32))) (cond (litCmp .eql (IntKind.wrap .i32 (litBin .add .u64 (litBin .rem .u64 b 4294967296) (litBin .shl .u64 (IntKind.wrap .u64 k) 32))) (-1)) 0 (litBin .rem .i32 (IntKind.wrap .i32 (litBin .add .u64 (litBin .rem .u64 a 4294967296) (litBin .shl .u64 (IntKind.wrap .u64 h) 32))) (IntKind.wrap .i32 (litBin .add .u64 (litBin .rem .u64 b 4294967296) (litBin .shl .u64 (IntKind.wrap .u64 k) 32))))))))) true ((cond (litCmp .eql (IntKind.wrap .u32 b) 0) true ((!(litCmp .eql (IntKind.wrap .u32 b) 0)) && (!(litCmp .eql (IntKind.wrap .u32 b) 0)))) && ((cond (litCmp .eql (IntKind.wrap .u32 b) 0) true ((!(litCmp .eql (IntKind.wrap .u32 b) 0)) && (!(litCmp .eql (IntKind.wrap .u32 b) 0)))) && ((cond (litCmp .eql (IntKind.wrap .i32 b) 0) true (cond (litCmp .eql (IntKind.wrap .i32 b) (-1)) true ((!(litCmp .eql (IntKind.wrap .i32 b) 0)) && (!(litCmp .eql (IntKind.wrap .i32 b) 0))))) && (cond (litCmp .eql (IntKind.wrap .i32 b) 0) true (cond (litCmp .eql (IntKind.wrap .i32 b) (-1)) true ((!(litCmp .eql (IntKind.wrap .i32 b) 0)) && (!(litCmp .eql (IntKind.wrap .i32 b) 0))))))))))))
def val (a : Int) (b : Int) (h : Int) (k : Int) : Bool := (cond (cond (litCmp .neq (IntKind.wrap .u64 (litBin .shr .i64 (IntKind.wrap .i64 (litBin .shl .u64 (IntKind.wrap .u64 (cond (litCmp .eql (IntKind.wrap .u32 b) 0) 4294967295 (litBin .quo .u32 (IntKind.wrap .u32 a) (IntKind.wrap .u32 b)))) 32)) 32)) (IntKind.wrap .u64 (litBin .shr .i64 (IntKind.wrap .i64 (litBin .shl .u64 (IntKind.wrap .u64 (cond (litCmp .eql (IntKind.wrap .u32 (litBin .add .u64 (litBin .rem .u64 b 4294967296) (litBin .shl .u64 (IntKind.wrap .u64 k) 32))) 0) 4294967295 (litBin .quo .u32 (IntKind.wrap .u32 (litBin .add .u64 (litBin .rem .u64 a 4294967296) (litBin .shl .u64 (IntKind.wrap .u64 h) 32))) (IntKind.wrap .u32 (litBin .add .u64 (litBin .rem .u64 b 4294967296) (litBin .shl .u64 (IntKind.wrap .u64 k) 32)))))) 32)) 32))) true (litCmp .neq (IntKind.wrap .u64 (litBin .shr .i64 (IntKind.wrap .i64 (litBin .shl .u64 (IntKind.wrap .u64 (cond (litCmp .eql (IntKind.wrap .u32 b) 0) (IntKind.wrap .u32 a) (litBin .rem .u32 (IntKind.wrap .u32 a) (IntKind.wrap .u32 b)))) 32)) 32)) (IntKind.wrap .u64 (litBin .shr .i64 (IntKind.wrap .i64 (litBin .shl .u64 (IntKind.wrap .u64 (cond (litCmp .eql (IntKind.wrap .u32 (litBin .add .u64 (litBin .rem .u64 b 4294967296) (litBin .shl .u64 (IntKind.wrap .u64 k) 32))) 0) (IntKind.wrap .u32 (litBin .add .u64 (litBin .rem .u64 a 4294967296) (litBin .shl .u64 (IntKind.wrap .u64 h) 32))) (litBin .rem .u32 (IntKind.wrap .u32 (litBin .add .u64 (litBin .rem .u64 a 4294967296) (litBin .shl .u64 (IntKind.wrap .u64 h) 32))) (IntKind.wrap .u32 (litBin .add .u64 (litBin .rem .u64 b 4294967296) (litBin .shl .u64 (IntKind.wrap .u64 k) 32)))))) 32)) 32)))) false (cond (cond (litCmp .neq (IntKind.wrap .u64 (cond (litCmp .eql (IntKind.wrap .i32 b) 0) (-1) (cond (litCmp .eql (IntKind.wrap .i32 b) (-1)) (litUna .neg .i32 (IntKind.wrap .i32 a)) (litBin .quo .i32 (IntKind.wrap .i32 a) (IntKind.wrap .i32 b))))) (IntKind.wrap .u64 (cond (litCmp .eql (IntKind.wrap .i32 (litBin .add .u64 (litBin .rem .u64 b 4294967296) (litBin .shl .u64 (IntKind.wrap .u64 k) 32))) 0) (-1) (cond (litCmp .eql (IntKind.wrap .i32 (litBin .add .u64 (litBin .rem .u64 b 4294967296) (litBin .shl .u64 (IntKind.wrap .u64 k) 32))) (-1)) (litUna .neg .i32 (IntKind.wrap .i32 (litBin .add .u64 (litBin .rem .u64 a 4294967296) (litBin .shl .u64 (IntKind.wrap .u64 h) 32)))) (litBin .quo .i32 (IntKind.wrap .i32 (litBin .add .u64 (litBin .rem .u64 a 4294967296) (litBin .shl .u64 (IntKind.wrap .u64 h) 32))) (IntKind.wrap .i32 (litBin .add .u64 (litBin .rem .u64 b 4294967296) (litBin .shl .u64 (IntKind.wrap .u64 k) 32)))))))) true (litCmp .neq (IntKind.wrap .u64 (cond (litCmp .eql (IntKind.wrap .i32 b) 0) (IntKind.wrap .i32 a) (cond (litCmp .eql (IntKind.wrap .i32 b) (-1)) 0 (litBin .rem .i32 (IntKind.wrap .i32 a) (IntKind.wrap .i32 b))))) (IntKind.wrap .u64 (cond (litCmp .eql (IntKind.wrap .i32 (litBin .add .u64 (litBin .rem .u64 b 4294967296) (litBin .shl .u64 (IntKind.wrap .u64 k) 32))) 0) (IntKind.wrap .i32 (litBin .add .u64 (litBin .rem .u64 a 4294967296) (litBin .shl .u64 (IntKind.wrap .u64 h) 32))) (cond (litCmp .eql (IntKind.wrap .i32 (litBin .add .u64 (litBin .rem .u64 b 4294967296) (litBin .shl .u64 (IntKind.wrap .u64 k) 32))) (-1)) 0 (litBin .rem .i32 (IntKind.wrap .i32 (litBin .add .u64 (litBin .rem .u64 a 4294967296) (litBin .shl .u64 (IntKind.wrap .u64 h) 32))) (IntKind.wrap .i32 (litBin .add .u64 (litBin .rem .u64 b 4294967296) (litBin .shl .u64 (IntKind.wrap .u64 k) 32))))))))) false (cond (litCmp .eql (IntKind.wrap .u64 (litBin .shr .i64 (IntKind.wrap .i64 (litBin .shl .u64 (litBin .add .u64 (litBin .mul .u64 (IntKind.wrap .u64 (litBin .shr .i64 (IntKind.wrap .i64 (litBin .shl .u64 (IntKind.wrap .u64 (cond (litCmp .eql (IntKind.wrap .u32 b) 0) 4294967295 (litBin .quo .u32 (IntKind.wrap .u32 a) (IntKind.wrap .u32 b)))) 32)) 32)) (litBin .and .u64 b 18446744073709551615)) (IntKind.wrap .u64 (litBin .shr .i64 (IntKind.wrap .i64 (litBin .shl .u64 (IntKind.wrap .u64 (cond (litCmp .eql (IntKind.wrap .u32 b) 0) (IntKind.wrap .u32 a) (litBin .rem .u32 (IntKind.wrap .u32 a) (IntKind.wrap .u32 b)))) 32)) 32))) 32)) 32)) (IntKind.wrap .u64 (litBin .shr .i64 (IntKind.wrap .i64 (litBin .shl .u64 a 32)) 32))) (cond (litCmp .eql (IntKind.wrap .u64 (litBin .shr .i64 (IntKind.wrap .i64 (litBin .shl .u64 (litBin .add .u64 (litBin .mul .u64 (IntKind.wrap .u64 (cond (litCmp .eql (IntKind.wrap .i32 b) 0) (-1) (cond (litCmp .eql (IntKind.wrap .i32 b) (-1)) (litUna .neg .i32 (IntKind.wrap .i32 a)) (litBin .quo .i32 (IntKind.wrap .i32 a) (IntKind.wrap .i32 b))))) (litBin .and .u64 b 18446744073709551615)) (IntKind.wrap .u64 (cond (litCmp .eql (IntKind.wrap .i32 b) 0) (IntKind.wrap .i32 a) (cond (litCmp .eql (IntKind.wrap .i32 b) (-1)) 0 (litBin .rem .i32 (IntKind.wrap .i32 a) (IntKind.wrap .i32 b)))))) 32)) 32)) (IntKind.wrap .u64 (litBin .shr .i64 (IntKind.wrap .i64 (litBin .shl .u64 a 32)) 32))) (cond (litCmp .eql (IntKind.wrap .u64 (litBin .shr .i64 (IntKind.wrap .i64 (litBin .shl .u64 (IntKind.wrap .u64 (litBin .shr .i64 (IntKind.wrap .i64 (litBin .shl .u64 (IntKind.wrap .u64 (cond (litCmp .eql (IntKind.wrap .u32 b) 0) 4294967295 (litBin .quo .u32 (IntKind.wrap .u32 a) (IntKind.wrap .u32 b)))) 32)) 32)) 32)) 32)) (IntKind.wrap .u64 (litBin .shr .i64 (IntKind.wrap .i64 (litBin .shl .u64 (IntKind.wrap .u64 (cond (litCmp .eql (IntKind.wrap .u32 b) 0) 4294967295 (litBin .quo .u32 (IntKind.wrap .u32 a) (IntKind.wrap .u32 b)))) 32)) 32))) (litCmp .eql (IntKind.wrap .u64 (litBin .shr .i64 (IntKind.wrap .i64 (litBin .shl .u64 (IntKind.wrap .u64 (cond (litCmp .eql (IntKind.wrap .i32 b) 0) (IntKind.wrap .i32 a) (cond (litCmp .eql (IntKind.wrap .i32 b) (-1)) 0 (litBin .rem .i32 (IntKind.wrap .i32 a) (IntKind.wrap .i32 b))))) 32)) 32)) (IntKind.wrap .u64 (cond (litCmp .eql (IntKind.wrap .i32 b) 0) (IntKind.wrap .i32 a) (cond (litCmp .eql (IntKind.wrap .i32 b) (-1)) 0 (litBin .rem .i32 (IntKind.wrap .i32 a) (IntKind.wrap .i32 b)))))) false) false) false)))
set_option maxRecDepth 100000 in
theorem road (a : Int) (b : Int) (h : Int) (k : Int) : ((call Try.prog cx 400 6 [.int .u64 (.sym a), .int .u64 (.sym b), .agg [.int .u32 (.sym h), .int .u32 (.sym k)]] []).route [true]).map (fun p => (p.1, p.2.1)) = some ([test0 a b h k], .val (.bool (.sym (val a b h k)))) := by kernel_rfl

theorem u32w (x : Int) : IntKind.wrap .u64 (x % 4294967296) = x % 4294967296 := by rw [Ev.wrap64]; omega
theorem same {a h : Int} (ha : inU a) (wh : 0 ≤ h ∧ h < 4294967296) : (litBin .add .u64 (litBin .rem .u64 a 4294967296) (litBin .shl .u64 (IntKind.wrap .u64 h) 32)) % 4294967296 = a % 4294967296 := by
  rw [rem32 ha, add_eq, shl32, Ev.wrap64]
  omega
theorem md (x y z : Int) : (sx x * y + sx z) % 4294967296 = (x * y + z) % 4294967296 := by
  rw [Int.add_emod, Int.mul_emod, sx_mod, sx_mod, ← Int.mul_emod, ← Int.add_emod]
theorem low (x y z : Int) : (litBin .add .u64 (litBin .mul .u64 x y) z) % 4294967296 = (x * y + z) % 4294967296 := by
  rw [add_eq, mul_eq]
  generalize x * y = t
  omega
theorem quoE (A B : Int) (hA : 0 ≤ A ∧ A < 4294967296) (hB : 0 ≤ B) : litBin .quo .u32 A B = A / B := by
  show IntKind.u32.wrap (A.tdiv B) = _
  rw [Int.tdiv_eq_ediv_of_nonneg hA.1, Ev.wrap32]
  have h1 := Int.ediv_le_self B hA.1
  have h2 := Int.ediv_nonneg hA.1 hB
  omega
theorem remE (A B : Int) (hA : 0 ≤ A) : litBin .rem .u32 A B = A % B := by
  show A.tmod B = _
  rw [Int.tmod_eq_emod_of_nonneg hA]

theorem one {a b : Int} : sx (litBin .add .u64 (litBin .mul .u64 (sx (cond (litCmp .eql (b % 4294967296) 0) 4294967295 (litBin .quo .u32 (a % 4294967296) (b % 4294967296)))) b) (sx (cond (litCmp .eql (b % 4294967296) 0) (a % 4294967296) (litBin .rem .u32 (a % 4294967296) (b % 4294967296))))) = sx a := by
  refine sx_congr ?_
  rw [low, md]
  by_cases h : b % 4294967296 = 0
  · rw [eql_of h, cond_true, cond_true]
    omega
  · have e : litCmp .eql (b % 4294967296) 0 = false := decide_eq_false h
    rw [e, cond_false, cond_false, quoE _ _ (by omega) (by omega), remE _ _ (by omega)]
    have e1 := Int.mul_ediv_add_emod (a % 4294967296) (b % 4294967296)
    generalize a % 4294967296 / (b % 4294967296) = Q at *
    generalize a % 4294967296 % (b % 4294967296) = R at *
    rw [Int.add_emod, Int.mul_emod, ← Int.emod_emod (b), ← Int.mul_emod, ← Int.add_emod, Int.mul_comm, e1]
    omega
theorem two {a b : Int} : sx (litBin .add .u64 (litBin .mul .u64 (IntKind.wrap .u64 (cond (litCmp .eql (IntKind.wrap .i32 b) 0) (-1) (cond (litCmp .eql (IntKind.wrap .i32 b) (-1)) (litUna .neg .i32 (IntKind.wrap .i32 a)) (litBin .quo .i32 (IntKind.wrap .i32 a) (IntKind.wrap .i32 b))))) b) (IntKind.wrap .u64 (cond (litCmp .eql (IntKind.wrap .i32 b) 0) (IntKind.wrap .i32 a) (cond (litCmp .eql (IntKind.wrap .i32 b) (-1)) 0 (litBin .rem .i32 (IntKind.wrap .i32 a) (IntKind.wrap .i32 b)))))) = sx a := by
  refine sx_congr ?_
  have hB := wrapi32 b
  have hA := wrapi32 a
  generalize IntKind.i32.wrap b = B at *
  generalize IntKind.i32.wrap a = A at *
  have key : ∀ q r : Int, (q * B + r) % 4294967296 = A % 4294967296 → (litBin .add .u64 (litBin .mul .u64 (IntKind.wrap .u64 q) b) (IntKind.wrap .u64 r)) % 4294967296 = a % 4294967296 := by
    intro q r h
    rw [low, Int.add_emod, Int.mul_emod, Ev.wrap64, Ev.wrap64, show q % 18446744073709551616 % 4294967296 = q % 4294967296 by omega, show r % 18446744073709551616 % 4294967296 = r % 4294967296 by omega, show b % 4294967296 = B % 4294967296 by omega, ← Int.mul_emod, ← Int.add_emod, h]
    omega
  refine key _ _ ?_
  by_cases h : B = 0
  · rw [eql_of h, cond_true, cond_true, h]
    omega
  · have e : litCmp .eql B 0 = false := decide_eq_false h
    rw [e, cond_false, cond_false]
    by_cases h' : B = -1
    · have e2 : litUna .neg .i32 A = IntKind.i32.wrap (0 - A) := rfl
      rw [eql_of h', cond_true, cond_true, h', e2, wrapi32]
      omega
    · have e' : litCmp .eql B (-1) = false := decide_eq_false h'
      have e2 : litBin .quo .i32 A B = IntKind.i32.wrap (A.tdiv B) := rfl
      have e3 : litBin .rem .i32 A B = A.tmod B := rfl
      rw [e', cond_false, cond_false, e2, e3, wrapi32, Int.add_emod, Int.mul_emod, show ((A.tdiv B + 2147483648) % 4294967296 - 2147483648) % 4294967296 = A.tdiv B % 4294967296 by omega, ← Int.mul_emod, ← Int.add_emod, Int.add_comm, Int.tmod_add_tdiv_mul]

theorem sx_sx (x : Int) : sx (sx x) = sx x := sx_congr (sx_mod x)
theorem three {a b : Int} : sx (IntKind.wrap .u64 (cond (litCmp .eql (IntKind.wrap .i32 b) 0) (IntKind.wrap .i32 a) (cond (litCmp .eql (IntKind.wrap .i32 b) (-1)) 0 (litBin .rem .i32 (IntKind.wrap .i32 a) (IntKind.wrap .i32 b))))) = IntKind.wrap .u64 (cond (litCmp .eql (IntKind.wrap .i32 b) 0) (IntKind.wrap .i32 a) (cond (litCmp .eql (IntKind.wrap .i32 b) (-1)) 0 (litBin .rem .i32 (IntKind.wrap .i32 a) (IntKind.wrap .i32 b)))) := by
  have key : ∀ y : Int, -2147483648 ≤ y ∧ y < 2147483648 → sx (IntKind.wrap .u64 y) = IntKind.wrap .u64 y := by
    intro y h
    rw [Ev.wrap64]
    unfold sx
    omega
  refine key _ ?_
  have hA := wrapi32 a
  generalize IntKind.i32.wrap b = B at *
  generalize IntKind.i32.wrap a = A at *
  have e3 : litBin .rem .i32 A B = A.tmod B := rfl
  rw [e3]
  have h1 := Int.natAbs_tmod A B
  have h2 := Nat.mod_le A.natAbs B.natAbs
  have h3 : ∀ x y z : Int, (-2147483648 ≤ x ∧ x < 2147483648) → (-2147483648 ≤ y ∧ y < 2147483648) → (-2147483648 ≤ z ∧ z < 2147483648) → ∀ c d : Bool, -2147483648 ≤ cond c x (cond d y z) ∧ cond c x (cond d y z) < 2147483648 := by
    intro x y z hx hy hz c d
    cases c
    · cases d
      · exact hz
      · exact hy
    · exact hx
  refine h3 _ _ _ (by omega) (by omega) ?_ _ _
  by_cases hn : 0 ≤ A
  · have := Int.tmod_nonneg B hn
    omega
  · have h4 := Int.tmod_nonneg B (show 0 ≤ -A by omega)
    rw [Int.neg_tmod] at h4
    omega

theorem guards {B : Int} : (cond (litCmp .eql B 0) true (!(litCmp .eql B 0) && !(litCmp .eql B 0))) = true := by cases litCmp .eql B 0 <;> rfl
theorem guards2 {B : Int} : (cond (litCmp .eql B 0) true (cond (litCmp .eql B (-1)) true (!(litCmp .eql B 0) && !(litCmp .eql B 0)))) = true := by cases litCmp .eql B 0 <;> cases litCmp .eql B (-1) <;> rfl

set_option maxRecDepth 100000 in
theorem law {a b h k : Int} (wa : (Lit.int .u64 a).wf = true) (wb : (Lit.int .u64 b).wf = true) (wh : (Lit.int .u32 h).wf = true) (wk : (Lit.int .u32 k).wf = true) : test0 a b h k = true ∧ val a b h k = true := by
  have ha := inU_wf wa
  have hb := inU_wf wb
  have sa := same ha (wf32 wh)
  have sb := same hb (wf32 wk)
  have ia : IntKind.wrap .i32 (litBin .add .u64 (litBin .rem .u64 a 4294967296) (litBin .shl .u64 (IntKind.wrap .u64 h) 32)) = IntKind.wrap .i32 a := by rw [wrapi32, wrapi32]; omega
  have ib : IntKind.wrap .i32 (litBin .add .u64 (litBin .rem .u64 b 4294967296) (litBin .shl .u64 (IntKind.wrap .u64 k) 32)) = IntKind.wrap .i32 b := by rw [wrapi32, wrapi32]; omega
  have ua : IntKind.wrap .u32 (litBin .add .u64 (litBin .rem .u64 a 4294967296) (litBin .shl .u64 (IntKind.wrap .u64 h) 32)) = IntKind.wrap .u32 a := by rw [Ev.wrap32, Ev.wrap32]; omega
  have ub : IntKind.wrap .u32 (litBin .add .u64 (litBin .rem .u64 b 4294967296) (litBin .shl .u64 (IntKind.wrap .u64 k) 32)) = IntKind.wrap .u32 b := by rw [Ev.wrap32, Ev.wrap32]; omega
  have wq : ∀ x : Int, sx (IntKind.wrap .u64 x) = sx x := fun x => sx_congr (by rw [Ev.wrap64]; omega)
  constructor
  · unfold test0
    simp only [sx32, ia, ib, ua, ub, wq, neq_self, guards, guards2, cond_true, cond_false, Bool.and_self, Bool.cond_self, Bool.and_true, Bool.true_and]
    cases litCmp .eql (IntKind.wrap .u32 b) 0 <;> cases litCmp .eql (IntKind.wrap .i32 b) 0 <;> cases litCmp .eql (IntKind.wrap .i32 b) (-1) <;> rfl
  · have h1 := @one a b
    have h2 := @two a b
    have h3 := @three a b
    rw [← Ev.wrap32, ← Ev.wrap32] at h1
    rw [wq] at h3
    unfold val
    simp only [sx32, ia, ib, ua, ub, wq, neq_self, cond_false, and_all hb, h1, h2, h3, sx_sx, eql_self, cond_true]

theorem sums (a b h k : Int) (wa : (Lit.int .u64 a).wf = true) (wb : (Lit.int .u64 b).wf = true) (wh : (Lit.int .u32 h).wf = true) (wk : (Lit.int .u32 k).wf = true) :
    ∃ c : Bool, (call Try.prog cx 400 6 [.int .u64 (.sym a), .int .u64 (.sym b), .agg [.int .u32 (.sym h), .int .u32 (.sym k)]] []).pick.map (·.1) = some (.val (.bool (.sym c))) ∧ c = true :=
  ⟨_, route_pick1 (road a b h k) (by rw [(law wa wb wh wk).1]), (law wa wb wh wk).2⟩

set_option maxRecDepth 100000 in
set_option maxHeartbeats 4000000 in
theorem run : ∀ vs, ArgsOk [.one (.int .u64), .one (.int .u64), .agg [.int .u32, .int .u32]] vs → ∀ w, Calls Try.prog 6 vs.toArray w fun e w' => e = .returned (.bool true) ∧ Below w.heap.size w w' := by
  intro vs h w
  obtain ⟨_, _, rfl, ⟨a, rfl, wa⟩, _, _, rfl, ⟨b, rfl, wb⟩, _, _, rfl, ⟨_, rfl, _, _, rfl, ⟨h, rfl, wh⟩, _, _, rfl, ⟨k, rfl, wk⟩, rfl⟩, rfl⟩ := h
  obtain ⟨c, k1, k2⟩ := sums a b h k wa wb wh wk
  have k3 := (rfl : List.map absV [.int .u64 a, .int .u64 b, .agg [.int .u32 h, .int .u32 k].toArray] = [.int .u64 (.sym a), .int .u64 (.sym b), .agg [.int .u32 (.sym h), .int .u32 (.sym k)]])
  have k4 := law_true2 cx_ok k3 k1 k2 w
  exact k4

set_option maxRecDepth 100000 in
theorem lifted (os : Os) (started : os.Started) (H : Type) (enc : TypeId × Value → H) :
    ReturnsInHanded {} Try.checked os 6 .any (Rows.wordSmallSpec.pre6 enc Try.prog Try.f6 Rows.wordSmallRow.domain false) (Rows.wordSmallSpec.post enc Try.prog Try.f6 false true false false) := by
  refine returnsInHanded_of_change (C := Try.checked) own started (by kernel_rfl) Try.func6
    (ChangeSpec.witness6 (enc := enc) (C := Try.checked) false ⟨#[], #[.int .u64 0, .int .u64 0, .agg #[.int .u32 0, .int .u32 0]], []⟩ 8 (by kernel_rfl) (by kernel_rfl) (by kernel_rfl) (by kernel_rfl)) ?_
  intro W base args ds gs before hval hW _ _
  exact lifted_plain (P := Try.prog) (f := 6) (fn := Try.f6) (s := Rows.wordSmallSpec) (tb := 4) rfl
    (fun ds h => by
      match ds, h with
      | [d1, d2, d3], _ => rfl)
    (by kernel_rfl) rfl (by kernel_rfl) run W base args ds gs before hval hW

theorem over : Rows.wordSmallRow.holds Try.pinned (OpenSpec.ofChange Rows.wordSmallSpec) :=
  OpenClaim.holds_of_wide 6 Try.f6 rfl rfl rfl rfl rfl rfl rfl ⟨rfl, rfl, rfl, rfl, rfl⟩ rfl rfl rfl rfl rfl (by kernel_rfl) Try.func6 (by kernel_rfl)
    (of_decide_eq_true (by kernel_rfl)) (by unfold Func.isWrapper; first | (rw [if_pos (by decide +kernel)]; kernel_rfl) | (rw [if_neg (by decide +kernel)]; exact ⟨rfl, rfl⟩))
    (fun os started H enc _ => lifted os started H enc)

/-- The statement. -/
theorem proved : Rows.WordSmallSaid :=
  over
#print axioms proved
end Go.Proofs.Ytgljicadcegilaa.WordSmall
