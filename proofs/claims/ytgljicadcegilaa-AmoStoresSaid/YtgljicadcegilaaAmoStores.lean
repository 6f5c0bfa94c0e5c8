/- The statement 'AmoStores': a store ends just the reservations of others whose blocks it has a byte of, however long it is, and wherever. Conditions: none. -/
import Derived.Test.YtgljicadcegilaaResBits
import Derived.Test.YtgljicadcegilaaEvLoop
namespace Go.Proofs.Ytgljicadcegilaa.AmoStores
open Go.RowKit Go.WideShapes Go.ChangeShapes Go.ChangeAt Ev
set_option linter.unusedVariables false
set_option linter.unusedSimpArgs false

def hd : List TV := [.skip, .skip, .skip, .ptr 0 0, .skip, .ptr 1 0, .truth false, .skip, .ptr 7 0, .skip, .int .i64, .int .i64]
def hp : List TO := [.cells 46 [.int .u64, .int .u64, .int .u64, .int .u64, .int .u64, .int .u64, .int .u64, .int .u64], .cells 48 [.int .u64, .int .u8], .skip, .skip, .skip, .skip, .skip, .cells 88 [.int .u64, .bool, .int .u64, .bool, .int .u64, .bool, .int .u64, .bool, .int .u64, .bool, .int .u64, .bool, .int .u64, .bool, .int .u64, .bool]]
/-- The state at the inner loop's head, for the i-th hart. -/
def tm (i : Int) : Tmpl := { slots := hd ++ [.num .i64 i, .bool, .int .i64] ++ List.replicate 71 .skip, heap := hp }
def tm' (i : Int) : Tmpl := { slots := hd ++ [.num .i64 i, .bool] ++ List.replicate 72 .skip, heap := hp }
def res (i : Nat) (e : Env DC) : Env DC := ⟨e.i.take 2 ++ e.i.drop 3, hitS (e.i.getD 11 0) (e.i.getD 1 0) (e.i.getD (3 + i) 0) :: e.b.drop 1, [], []⟩
def nh (A a jj : Int) (hit : Bool) : Bool := cond hit true (litCmp .eql (litBin .quo .u64 (litBin .add .u64 A (IntKind.wrap .u64 jj)) 8) (litBin .quo .u64 a 8))
set_option maxRecDepth 100000 in
theorem goes0 (k n jj a0 a1 a2 a3 a4 a5 a6 a7 A N r0 r1 r2 r3 r4 r5 r6 r7 : Int) (hit b0 b1 b2 b3 b4 b5 b6 b7 : Bool) : (viewT (tm 0) 8 (fun _ => [0, 1, 2, 3, 4, 5, 6, 7]) ((tm 0).fill ⟨[k, n, jj, a0, a1, a2, a3, a4, a5, a6, a7, A, N, r0, r1, r2, r3, r4, r5, r6, r7], [hit, b0, b1, b2, b3, b4, b5, b6, b7], [], []⟩) (ev Try.prog cx 9 400 (.code (loopAt Try.prog 9 4)) ((tm 0).fill ⟨[k, n, jj, a0, a1, a2, a3, a4, a5, a6, a7, A, N, r0, r1, r2, r3, r4, r5, r6, r7], [hit, b0, b1, b2, b3, b4, b5, b6, b7], [], []⟩))).route [true] = some ([litCmp .lss jj n], (.normal, some ⟨[k, n, litBin .add .i64 jj 1, a0, a1, a2, a3, a4, a5, a6, a7, A, N, r0, r1, r2, r3, r4, r5, r6, r7], [nh A a0 jj hit, b0, b1, b2, b3, b4, b5, b6, b7], [], []⟩)) := by kernel_rfl
set_option maxRecDepth 100000 in
theorem ends0 (k n jj a0 a1 a2 a3 a4 a5 a6 a7 A N r0 r1 r2 r3 r4 r5 r6 r7 : Int) (hit b0 b1 b2 b3 b4 b5 b6 b7 : Bool) : (viewT (tm 0) 8 (fun _ => [0, 1, 2, 3, 4, 5, 6, 7]) ((tm 0).fill ⟨[k, n, jj, a0, a1, a2, a3, a4, a5, a6, a7, A, N, r0, r1, r2, r3, r4, r5, r6, r7], [hit, b0, b1, b2, b3, b4, b5, b6, b7], [], []⟩) (ev Try.prog cx 9 400 (.code (loopAt Try.prog 9 4)) ((tm 0).fill ⟨[k, n, jj, a0, a1, a2, a3, a4, a5, a6, a7, A, N, r0, r1, r2, r3, r4, r5, r6, r7], [hit, b0, b1, b2, b3, b4, b5, b6, b7], [], []⟩))).route [false] = some ([litCmp .lss jj n], (.exit 4, some ⟨[k, n, jj, a0, a1, a2, a3, a4, a5, a6, a7, A, N, r0, r1, r2, r3, r4, r5, r6, r7], [hit, b0, b1, b2, b3, b4, b5, b6, b7], [], []⟩)) := by kernel_rfl
set_option maxRecDepth 100000 in
theorem goes1 (k n jj a0 a1 a2 a3 a4 a5 a6 a7 A N r0 r1 r2 r3 r4 r5 r6 r7 : Int) (hit b0 b1 b2 b3 b4 b5 b6 b7 : Bool) : (viewT (tm 1) 8 (fun _ => [0, 1, 2, 3, 4, 5, 6, 7]) ((tm 1).fill ⟨[k, n, jj, a0, a1, a2, a3, a4, a5, a6, a7, A, N, r0, r1, r2, r3, r4, r5, r6, r7], [hit, b0, b1, b2, b3, b4, b5, b6, b7], [], []⟩) (ev Try.prog cx 9 400 (.code (loopAt Try.prog 9 4)) ((tm 1).fill ⟨[k, n, jj, a0, a1, a2, a3, a4, a5, a6, a7, A, N, r0, r1, r2, r3, r4, r5, r6, r7], [hit, b0, b1, b2, b3, b4, b5, b6, b7], [], []⟩))).route [true] = some ([litCmp .lss jj n], (.normal, some ⟨[k, n, litBin .add .i64 jj 1, a0, a1, a2, a3, a4, a5, a6, a7, A, N, r0, r1, r2, r3, r4, r5, r6, r7], [nh A a1 jj hit, b0, b1, b2, b3, b4, b5, b6, b7], [], []⟩)) := by kernel_rfl
set_option maxRecDepth 100000 in
theorem ends1 (k n jj a0 a1 a2 a3 a4 a5 a6 a7 A N r0 r1 r2 r3 r4 r5 r6 r7 : Int) (hit b0 b1 b2 b3 b4 b5 b6 b7 : Bool) : (viewT (tm 1) 8 (fun _ => [0, 1, 2, 3, 4, 5, 6, 7]) ((tm 1).fill ⟨[k, n, jj, a0, a1, a2, a3, a4, a5, a6, a7, A, N, r0, r1, r2, r3, r4, r5, r6, r7], [hit, b0, b1, b2, b3, b4, b5, b6, b7], [], []⟩) (ev Try.prog cx 9 400 (.code (loopAt Try.prog 9 4)) ((tm 1).fill ⟨[k, n, jj, a0, a1, a2, a3, a4, a5, a6, a7, A, N, r0, r1, r2, r3, r4, r5, r6, r7], [hit, b0, b1, b2, b3, b4, b5, b6, b7], [], []⟩))).route [false] = some ([litCmp .lss jj n], (.exit 4, some ⟨[k, n, jj, a0, a1, a2, a3, a4, a5, a6, a7, A, N, r0, r1, r2, r3, r4, r5, r6, r7], [hit, b0, b1, b2, b3, b4, b5, b6, b7], [], []⟩)) := by kernel_rfl
set_option maxRecDepth 100000 in
theorem goes2 (k n jj a0 a1 a2 a3 a4 a5 a6 a7 A N r0 r1 r2 r3 r4 r5 r6 r7 : Int) (hit b0 b1 b2 b3 b4 b5 b6 b7 : Bool) : (viewT (tm 2) 8 (fun _ => [0, 1, 2, 3, 4, 5, 6, 7]) ((tm 2).fill ⟨[k, n, jj, a0, a1, a2, a3, a4, a5, a6, a7, A, N, r0, r1, r2, r3, r4, r5, r6, r7], [hit, b0, b1, b2, b3, b4, b5, b6, b7], [], []⟩) (ev Try.prog cx 9 400 (.code (loopAt Try.prog 9 4)) ((tm 2).fill ⟨[k, n, jj, a0, a1, a2, a3, a4, a5, a6, a7, A, N, r0, r1, r2, r3, r4, r5, r6, r7], [hit, b0, b1, b2, b3, b4, b5, b6, b7], [], []⟩))).route [true] = some ([litCmp .lss jj n], (.normal, some ⟨[k, n, litBin .add .i64 jj 1, a0, a1, a2, a3, a4, a5, a6, a7, A, N, r0, r1, r2, r3, r4, r5, r6, r7], [nh A a2 jj hit, b0, b1, b2, b3, b4, b5, b6, b7], [], []⟩)) := by kernel_rfl
set_option maxRecDepth 100000 in
theorem ends2 (k n jj a0 a1 a2 a3 a4 a5 a6 a7 A N r0 r1 r2 r3 r4 r5 r6 r7 : Int) (hit b0 b1 b2 b3 b4 b5 b6 b7 : Bool) : (viewT (tm 2) 8 (fun _ => [0, 1, 2, 3, 4, 5, 6, 7]) ((tm 2).fill ⟨[k, n, jj, a0, a1, a2, a3, a4, a5, a6, a7, A, N, r0, r1, r2, r3, r4, r5, r6, r7], [hit, b0, b1, b2, b3, b4, b5, b6, b7], [], []⟩) (ev Try.prog cx 9 400 (.code (loopAt Try.prog 9 4)) ((tm 2).fill ⟨[k, n, jj, a0, a1, a2, a3, a4, a5, a6, a7, A, N, r0, r1, r2, r3, r4, r5, r6, r7], [hit, b0, b1, b2, b3, b4, b5, b6, b7], [], []⟩))).route [false] = some ([litCmp .lss jj n], (.exit 4, some ⟨[k, n, jj, a0, a1, a2, a3, a4, a5, a6, a7, A, N, r0, r1, r2, r3, r4, r5, r6, r7], [hit, b0, b1, b2, b3, b4, b5, b6, b7], [], []⟩)) := by kernel_rfl
set_option maxRecDepth 100000 in
theorem goes3 (k n jj a0 a1 a2 a3 a4 a5 a6 a7 A N r0 r1 r2 r3 r4 r5 r6 r7 : Int) (hit b0 b1 b2 b3 b4 b5 b6 b7 : Bool) : (viewT (tm 3) 8 (fun _ => [0, 1, 2, 3, 4, 5, 6, 7]) ((tm 3).fill ⟨[k, n, jj, a0, a1, a2, a3, a4, a5, a6, a7, A, N, r0, r1, r2, r3, r4, r5, r6, r7], [hit, b0, b1, b2, b3, b4, b5, b6, b7], [], []⟩) (ev Try.prog cx 9 400 (.code (loopAt Try.prog 9 4)) ((tm 3).fill ⟨[k, n, jj, a0, a1, a2, a3, a4, a5, a6, a7, A, N, r0, r1, r2, r3, r4, r5, r6, r7], [hit, b0, b1, b2, b3, b4, b5, b6, b7], [], []⟩))).route [true] = some ([litCmp .lss jj n], (.normal, some ⟨[k, n, litBin .add .i64 jj 1, a0, a1, a2, a3, a4, a5, a6, a7, A, N, r0, r1, r2, r3, r4, r5, r6, r7], [nh A a3 jj hit, b0, b1, b2, b3, b4, b5, b6, b7], [], []⟩)) := by kernel_rfl
set_option maxRecDepth 100000 in
theorem ends3 (k n jj a0 a1 a2 a3 a4 a5 a6 a7 A N r0 r1 r2 r3 r4 r5 r6 r7 : Int) (hit b0 b1 b2 b3 b4 b5 b6 b7 : Bool) : (viewT (tm 3) 8 (fun _ => [0, 1, 2, 3, 4, 5, 6, 7]) ((tm 3).fill ⟨[k, n, jj, a0, a1, a2, a3, a4, a5, a6, a7, A, N, r0, r1, r2, r3, r4, r5, r6, r7], [hit, b0, b1, b2, b3, b4, b5, b6, b7], [], []⟩) (ev Try.prog cx 9 400 (.code (loopAt Try.prog 9 4)) ((tm 3).fill ⟨[k, n, jj, a0, a1, a2, a3, a4, a5, a6, a7, A, N, r0, r1, r2, r3, r4, r5, r6, r7], [hit, b0, b1, b2, b3, b4, b5, b6, b7], [], []⟩))).route [false] = some ([litCmp .lss jj n], (.exit 4, some ⟨[k, n, jj, a0, a1, a2, a3, a4, a5, a6, a7, A, N, r0, r1, r2, r3, r4, r5, r6, r7], [hit, b0, b1, b2, b3, b4, b5, b6, b7], [], []⟩)) := by kernel_rfl
set_option maxRecDepth 100000 in
theorem goes4 (k n jj a0 a1 a2 a3 a4 a5 a6 a7 A N r0 r1 r2 r3 r4 r5 r6 r7 : Int) (hit b0 b1 b2 b3 b4 b5 b6 b7 : Bool) : (viewT (tm 4) 8 (fun _ => [0, 1, 2, 3, 4, 5, 6, 7]) ((tm 4).fill ⟨[k, n, jj, a0, a1, a2, a3, a4, a5, a6, a7, A, N, r0, r1, r2, r3, r4, r5, r6, r7], [hit, b0, b1, b2, b3, b4, b5, b6, b7], [], []⟩) (ev Try.prog cx 9 400 (.code (loopAt Try.prog 9 4)) ((tm 4).fill ⟨[k, n, jj, a0, a1, a2, a3, a4, a5, a6, a7, A, N, r0, r1, r2, r3, r4, r5, r6, r7], [hit, b0, b1, b2, b3, b4, b5, b6, b7], [], []⟩))).route [true] = some ([litCmp .lss jj n], (.normal, some ⟨[k, n, litBin .add .i64 jj 1, a0, a1, a2, a3, a4, a5, a6, a7, A, N, r0, r1, r2, r3, r4, r5, r6, r7], [nh A a4 jj hit, b0, b1, b2, b3, b4, b5, b6, b7], [], []⟩)) := by kernel_rfl
set_option maxRecDepth 100000 in
theorem ends4 (k n jj a0 a1 a2 a3 a4 a5 a6 a7 A N r0 r1 r2 r3 r4 r5 r6 r7 : Int) (hit b0 b1 b2 b3 b4 b5 b6 b7 : Bool) : (viewT (tm 4) 8 (fun _ => [0, 1, 2, 3, 4, 5, 6, 7]) ((tm 4).fill ⟨[k, n, jj, a0, a1, a2, a3, a4, a5, a6, a7, A, N, r0, r1, r2, r3, r4, r5, r6, r7], [hit, b0, b1, b2, b3, b4, b5, b6, b7], [], []⟩) (ev Try.prog cx 9 400 (.code (loopAt Try.prog 9 4)) ((tm 4).fill ⟨[k, n, jj, a0, a1, a2, a3, a4, a5, a6, a7, A, N, r0, r1, r2, r3, r4, r5, r6, r7], [hit, b0, b1, b2, b3, b4, b5, b6, b7], [], []⟩))).route [false] = some ([litCmp .lss jj n], (.exit 4, some ⟨[k, n, jj, a0, a1, a2, a3, a4, a5, a6, a7, A, N, r0, r1, r2, r3, r4, r5, r6, r7], [hit, b0, b1, b2, b3, b4, b5, b6, b7], [], []⟩)) := by kernel_rfl
set_option maxRecDepth 100000 in
theorem goes5 (k n jj a0 a1 a2 a3 a4 a5 a6 a7 A N r0 r1 r2 r3 r4 r5 r6 r7 : Int) (hit b0 b1 b2 b3 b4 b5 b6 b7 : Bool) : (viewT (tm 5) 8 (fun _ => [0, 1, 2, 3, 4, 5, 6, 7]) ((tm 5).fill ⟨[k, n, jj, a0, a1, a2, a3, a4, a5, a6, a7, A, N, r0, r1, r2, r3, r4, r5, r6, r7], [hit, b0, b1, b2, b3, b4, b5, b6, b7], [], []⟩) (ev Try.prog cx 9 400 (.code (loopAt Try.prog 9 4)) ((tm 5).fill ⟨[k, n, jj, a0, a1, a2, a3, a4, a5, a6, a7, A, N, r0, r1, r2, r3, r4, r5, r6, r7], [hit, b0, b1, b2, b3, b4, b5, b6, b7], [], []⟩))).route [true] = some ([litCmp .lss jj n], (.normal, some ⟨[k, n, litBin .add .i64 jj 1, a0, a1, a2, a3, a4, a5, a6, a7, A, N, r0, r1, r2, r3, r4, r5, r6, r7], [nh A a5 jj hit, b0, b1, b2, b3, b4, b5, b6, b7], [], []⟩)) := by kernel_rfl
set_option maxRecDepth 100000 in
theorem ends5 (k n jj a0 a1 a2 a3 a4 a5 a6 a7 A N r0 r1 r2 r3 r4 r5 r6 r7 : Int) (hit b0 b1 b2 b3 b4 b5 b6 b7 : Bool) : (viewT (tm 5) 8 (fun _ => [0, 1, 2, 3, 4, 5, 6, 7]) ((tm 5).fill ⟨[k, n, jj, a0, a1, a2, a3, a4, a5, a6, a7, A, N, r0, r1, r2, r3, r4, r5, r6, r7], [hit, b0, b1, b2, b3, b4, b5, b6, b7], [], []⟩) (ev Try.prog cx 9 400 (.code (loopAt Try.prog 9 4)) ((tm 5).fill ⟨[k, n, jj, a0, a1, a2, a3, a4, a5, a6, a7, A, N, r0, r1, r2, r3, r4, r5, r6, r7], [hit, b0, b1, b2, b3, b4, b5, b6, b7], [], []⟩))).route [false] = some ([litCmp .lss jj n], (.exit 4, some ⟨[k, n, jj, a0, a1, a2, a3, a4, a5, a6, a7, A, N, r0, r1, r2, r3, r4, r5, r6, r7], [hit, b0, b1, b2, b3, b4, b5, b6, b7], [], []⟩)) := by kernel_rfl
set_option maxRecDepth 100000 in
theorem goes6 (k n jj a0 a1 a2 a3 a4 a5 a6 a7 A N r0 r1 r2 r3 r4 r5 r6 r7 : Int) (hit b0 b1 b2 b3 b4 b5 b6 b7 : Bool) : (viewT (tm 6) 8 (fun _ => [0, 1, 2, 3, 4, 5, 6, 7]) ((tm 6).fill ⟨[k, n, jj, a0, a1, a2, a3, a4, a5, a6, a7, A, N, r0, r1, r2, r3, r4, r5, r6, r7], [hit, b0, b1, b2, b3, b4, b5, b6, b7], [], []⟩) (ev Try.prog cx 9 400 (.code (loopAt Try.prog 9 4)) ((tm 6).fill ⟨[k, n, jj, a0, a1, a2, a3, a4, a5, a6, a7, A, N, r0, r1, r2, r3, r4, r5, r6, r7], [hit, b0, b1, b2, b3, b4, b5, b6, b7], [], []⟩))).route [true] = some ([litCmp .lss jj n], (.normal, some ⟨[k, n, litBin .add .i64 jj 1, a0, a1, a2, a3, a4, a5, a6, a7, A, N, r0, r1, r2, r3, r4, r5, r6, r7], [nh A a6 jj hit, b0, b1, b2, b3, b4, b5, b6, b7], [], []⟩)) := by kernel_rfl
set_option maxRecDepth 100000 in
theorem ends6 (k n jj a0 a1 a2 a3 a4 a5 a6 a7 A N r0 r1 r2 r3 r4 r5 r6 r7 : Int) (hit b0 b1 b2 b3 b4 b5 b6 b7 : Bool) : (viewT (tm 6) 8 (fun _ => [0, 1, 2, 3, 4, 5, 6, 7]) ((tm 6).fill ⟨[k, n, jj, a0, a1, a2, a3, a4, a5, a6, a7, A, N, r0, r1, r2, r3, r4, r5, r6, r7], [hit, b0, b1, b2, b3, b4, b5, b6, b7], [], []⟩) (ev Try.prog cx 9 400 (.code (loopAt Try.prog 9 4)) ((tm 6).fill ⟨[k, n, jj, a0, a1, a2, a3, a4, a5, a6, a7, A, N, r0, r1, r2, r3, r4, r5, r6, r7], [hit, b0, b1, b2, b3, b4, b5, b6, b7], [], []⟩))).route [false] = some ([litCmp .lss jj n], (.exit 4, some ⟨[k, n, jj, a0, a1, a2, a3, a4, a5, a6, a7, A, N, r0, r1, r2, r3, r4, r5, r6, r7], [hit, b0, b1, b2, b3, b4, b5, b6, b7], [], []⟩)) := by kernel_rfl
set_option maxRecDepth 100000 in
theorem goes7 (k n jj a0 a1 a2 a3 a4 a5 a6 a7 A N r0 r1 r2 r3 r4 r5 r6 r7 : Int) (hit b0 b1 b2 b3 b4 b5 b6 b7 : Bool) : (viewT (tm 7) 8 (fun _ => [0, 1, 2, 3, 4, 5, 6, 7]) ((tm 7).fill ⟨[k, n, jj, a0, a1, a2, a3, a4, a5, a6, a7, A, N, r0, r1, r2, r3, r4, r5, r6, r7], [hit, b0, b1, b2, b3, b4, b5, b6, b7], [], []⟩) (ev Try.prog cx 9 400 (.code (loopAt Try.prog 9 4)) ((tm 7).fill ⟨[k, n, jj, a0, a1, a2, a3, a4, a5, a6, a7, A, N, r0, r1, r2, r3, r4, r5, r6, r7], [hit, b0, b1, b2, b3, b4, b5, b6, b7], [], []⟩))).route [true] = some ([litCmp .lss jj n], (.normal, some ⟨[k, n, litBin .add .i64 jj 1, a0, a1, a2, a3, a4, a5, a6, a7, A, N, r0, r1, r2, r3, r4, r5, r6, r7], [nh A a7 jj hit, b0, b1, b2, b3, b4, b5, b6, b7], [], []⟩)) := by kernel_rfl
set_option maxRecDepth 100000 in
theorem ends7 (k n jj a0 a1 a2 a3 a4 a5 a6 a7 A N r0 r1 r2 r3 r4 r5 r6 r7 : Int) (hit b0 b1 b2 b3 b4 b5 b6 b7 : Bool) : (viewT (tm 7) 8 (fun _ => [0, 1, 2, 3, 4, 5, 6, 7]) ((tm 7).fill ⟨[k, n, jj, a0, a1, a2, a3, a4, a5, a6, a7, A, N, r0, r1, r2, r3, r4, r5, r6, r7], [hit, b0, b1, b2, b3, b4, b5, b6, b7], [], []⟩) (ev Try.prog cx 9 400 (.code (loopAt Try.prog 9 4)) ((tm 7).fill ⟨[k, n, jj, a0, a1, a2, a3, a4, a5, a6, a7, A, N, r0, r1, r2, r3, r4, r5, r6, r7], [hit, b0, b1, b2, b3, b4, b5, b6, b7], [], []⟩))).route [false] = some ([litCmp .lss jj n], (.exit 4, some ⟨[k, n, jj, a0, a1, a2, a3, a4, a5, a6, a7, A, N, r0, r1, r2, r3, r4, r5, r6, r7], [hit, b0, b1, b2, b3, b4, b5, b6, b7], [], []⟩)) := by kernel_rfl

def I (i : Nat) (e0 e : Env DC) : Prop := ∃ (k a0 a1 a2 a3 a4 a5 a6 a7 A N r0 r1 r2 r3 r4 r5 r6 r7 : Int) (hit b0 b1 b2 b3 b4 b5 b6 b7 : Bool) (n q : Nat), e0 = ⟨[k, (n : Int), 0, a0, a1, a2, a3, a4, a5, a6, a7, A, N, r0, r1, r2, r3, r4, r5, r6, r7], [false, b0, b1, b2, b3, b4, b5, b6, b7], [], []⟩ ∧ e = ⟨[k, (n : Int), (q : Int), a0, a1, a2, a3, a4, a5, a6, a7, A, N, r0, r1, r2, r3, r4, r5, r6, r7], [hit, b0, b1, b2, b3, b4, b5, b6, b7], [], []⟩ ∧ q ≤ n ∧ n ≤ 64 ∧ inU A ∧ inU (([a0, a1, a2, a3, a4, a5, a6, a7] : List Int).getD i 0) ∧ (hit = true ↔ ∃ m : Nat, m < q ∧ (A + m) % 18446744073709551616 / 8 = (([a0, a1, a2, a3, a4, a5, a6, a7] : List Int).getD i 0) / 8)
def F (i : Nat) (e0 e : Env DC) : Prop := ∃ (k a0 a1 a2 a3 a4 a5 a6 a7 A N r0 r1 r2 r3 r4 r5 r6 r7 : Int) (b0 b1 b2 b3 b4 b5 b6 b7 : Bool) (n q : Nat), e0 = ⟨[k, (n : Int), 0, a0, a1, a2, a3, a4, a5, a6, a7, A, N, r0, r1, r2, r3, r4, r5, r6, r7], [false, b0, b1, b2, b3, b4, b5, b6, b7], [], []⟩ ∧ e = ⟨[k, (n : Int), (q : Int), a0, a1, a2, a3, a4, a5, a6, a7, A, N, r0, r1, r2, r3, r4, r5, r6, r7], [hitS A n (([a0, a1, a2, a3, a4, a5, a6, a7] : List Int).getD i 0), b0, b1, b2, b3, b4, b5, b6, b7], [], []⟩
noncomputable def ask (i : Nat) (e : Env DC) : Bool := yes (I i e e)
noncomputable def g (s : St DC) : T DC (Ex DC × List (W DC)) := match s.slots.getD 12 .dead with
  | .int _ (.lit 0) => loopSumF (D := DC) (tm 0) (tm' 0) 8 [0, 1, 2, 3, 4, 5, 6, 7] (ask 0) (res 0) s
  | .int _ (.lit 1) => loopSumF (D := DC) (tm 1) (tm' 1) 8 [0, 1, 2, 3, 4, 5, 6, 7] (ask 1) (res 1) s
  | .int _ (.lit 2) => loopSumF (D := DC) (tm 2) (tm' 2) 8 [0, 1, 2, 3, 4, 5, 6, 7] (ask 2) (res 2) s
  | .int _ (.lit 3) => loopSumF (D := DC) (tm 3) (tm' 3) 8 [0, 1, 2, 3, 4, 5, 6, 7] (ask 3) (res 3) s
  | .int _ (.lit 4) => loopSumF (D := DC) (tm 4) (tm' 4) 8 [0, 1, 2, 3, 4, 5, 6, 7] (ask 4) (res 4) s
  | .int _ (.lit 5) => loopSumF (D := DC) (tm 5) (tm' 5) 8 [0, 1, 2, 3, 4, 5, 6, 7] (ask 5) (res 5) s
  | .int _ (.lit 6) => loopSumF (D := DC) (tm 6) (tm' 6) 8 [0, 1, 2, 3, 4, 5, 6, 7] (ask 6) (res 6) s
  | .int _ (.lit 7) => loopSumF (D := DC) (tm 7) (tm' 7) 8 [0, 1, 2, 3, 4, 5, 6, 7] (ask 7) (res 7) s
  | _ => .fail
noncomputable def X : Cx DC := cx.block 9 4 g

theorem next {A a : Int} {q : Nat} {hit : Bool} (hA : inU A) (ha : inU a) (hq : q < 64) (hh : hit = true ↔ ∃ m : Nat, m < q ∧ (A + m) % 18446744073709551616 / 8 = a / 8) : nh A a (q : Int) hit = true ↔ ∃ m : Nat, m < q + 1 ∧ (A + m) % 18446744073709551616 / 8 = a / 8 := by
  have e : nh A a (q : Int) hit = (hit || decide ((A + q) % 18446744073709551616 / 8 = a / 8)) := by
    unfold nh
    rw [quo8 (inU.add _ _), quo8 ha, add_eq, Ev.wrap64, eql_eq, Int.emod_eq_of_lt (by omega : 0 ≤ (q : Int)) (by omega)]
    cases hit <;> rfl
  rw [e, Bool.or_eq_true, hh, decide_eq_true_eq]
  constructor
  · rintro (⟨m, h1, h2⟩ | h)
    · exact ⟨m, by omega, h2⟩
    · exact ⟨q, by omega, h⟩
  · rintro ⟨m, h1, h2⟩
    rcases (by omega : m < q ∨ m = q) with h | h
    · exact .inl ⟨m, h, h2⟩
    · subst h; exact .inr h2
theorem round0 (e0 e : Env DC) (h : I 0 e0 e) : RoundT (I 0 e0) (fun e => (65 - (e.i.getD 2 0)).toNat) (F 0 e0) 4 e (viewT (tm 0) 8 (fun _ => [0, 1, 2, 3, 4, 5, 6, 7]) ((tm 0).fill e) (ev Try.prog cx 9 400 (.code (loopAt Try.prog 9 4)) ((tm 0).fill e))) := by
  obtain ⟨k, a0, a1, a2, a3, a4, a5, a6, a7, A, N, r0, r1, r2, r3, r4, r5, r6, r7, hit, b0, b1, b2, b3, b4, b5, b6, b7, n, q, rfl, rfl, hq, hn, hA, ha, hh⟩ := h
  by_cases hlt : q < n
  · refine ⟨_, _, route_at (goes0 k n q a0 a1 a2 a3 a4 a5 a6 a7 A N r0 r1 r2 r3 r4 r5 r6 r7 hit b0 b1 b2 b3 b4 b5 b6 b7) ?_, .inl ⟨rfl, _, rfl, ⟨k, a0, a1, a2, a3, a4, a5, a6, a7, A, N, r0, r1, r2, r3, r4, r5, r6, r7, nh A a0 q hit, b0, b1, b2, b3, b4, b5, b6, b7, n, q + 1, rfl, by rw [addi q (by omega)], hlt, hn, hA, ha, next hA ha (by omega) hh⟩, ?_⟩⟩
    · rw [lss_eq, decide_eq_true (by omega)]
    · simp only [List.getD_cons_succ, List.getD_cons_zero]
      rw [addi q (by omega)]
      omega
  · have : q = n := by omega
    subst this
    refine ⟨_, _, route_at (ends0 k q q a0 a1 a2 a3 a4 a5 a6 a7 A N r0 r1 r2 r3 r4 r5 r6 r7 hit b0 b1 b2 b3 b4 b5 b6 b7) ?_, .inr ⟨rfl, _, rfl, k, a0, a1, a2, a3, a4, a5, a6, a7, A, N, r0, r1, r2, r3, r4, r5, r6, r7, b0, b1, b2, b3, b4, b5, b6, b7, q, q, rfl, ?_⟩⟩
    · rw [lss_eq, decide_eq_false (by omega)]
    · have : hit = hitS A q (([a0, a1, a2, a3, a4, a5, a6, a7] : List Int).getD 0 0) := by
        have e := hh.trans (hit_iff (n := q) hA ha hn).symm
        cases hit
        · cases hx : hitS A q (([a0, a1, a2, a3, a4, a5, a6, a7] : List Int).getD 0 0)
          · rfl
          · exact absurd (e.2 hx) (by simp)
        · exact (e.1 rfl).symm
      rw [this]
theorem ok0 (hw : Within Try.prog 9 (.block 4 (.loop (loopAt Try.prog 9 4)))) (s : St DC) (r : Ex DC × List (W DC)) (hr : (loopSumF (D := DC) (tm 0) (tm' 0) 8 [0, 1, 2, 3, 4, 5, 6, 7] (ask 0) (res 0) s).pick = some r) (w0 : World) (own : List Nat) (ρ : List Rb) (a : Act) (w : World) (H : SR w0 own ρ s a w) :
    (Code.block 4 (.loop (loopAt Try.prog 9 4))).wp Try.prog (CodePost w0 own ρ s r) a w := by
  refine loopSumF_ok (I := I 0) (m := fun _ e => (65 - (e.i.getD 2 0)).toNat) (Fin := F 0) cx_ok (fun e he => of_yes he) round0 ?_ hw s r hr w0 own ρ a w H
  rintro e0 e1 ⟨k, a0, a1, a2, a3, a4, a5, a6, a7, A, N, r0, r1, r2, r3, r4, r5, r6, r7, b0, b1, b2, b3, b4, b5, b6, b7, n, q, rfl, rfl⟩
  kernel_rfl
theorem round1 (e0 e : Env DC) (h : I 1 e0 e) : RoundT (I 1 e0) (fun e => (65 - (e.i.getD 2 0)).toNat) (F 1 e0) 4 e (viewT (tm 1) 8 (fun _ => [0, 1, 2, 3, 4, 5, 6, 7]) ((tm 1).fill e) (ev Try.prog cx 9 400 (.code (loopAt Try.prog 9 4)) ((tm 1).fill e))) := by
  obtain ⟨k, a0, a1, a2, a3, a4, a5, a6, a7, A, N, r0, r1, r2, r3, r4, r5, r6, r7, hit, b0, b1, b2, b3, b4, b5, b6, b7, n, q, rfl, rfl, hq, hn, hA, ha, hh⟩ := h
  by_cases hlt : q < n
  · refine ⟨_, _, route_at (goes1 k n q a0 a1 a2 a3 a4 a5 a6 a7 A N r0 r1 r2 r3 r4 r5 r6 r7 hit b0 b1 b2 b3 b4 b5 b6 b7) ?_, .inl ⟨rfl, _, rfl, ⟨k, a0, a1, a2, a3, a4, a5, a6, a7, A, N, r0, r1, r2, r3, r4, r5, r6, r7, nh A a1 q hit, b0, b1, b2, b3, b4, b5, b6, b7, n, q + 1, rfl, by rw [addi q (by omega)], hlt, hn, hA, ha, next hA ha (by omega) hh⟩, ?_⟩⟩
    · rw [lss_eq, decide_eq_true (by omega)]
    · simp only [List.getD_cons_succ, List.getD_cons_zero]
      rw [addi q (by omega)]
      omega
  · have : q = n := by omega
    subst this
    refine ⟨_, _, route_at (ends1 k q q a0 a1 a2 a3 a4 a5 a6 a7 A N r0 r1 r2 r3 r4 r5 r6 r7 hit b0 b1 b2 b3 b4 b5 b6 b7) ?_, .inr ⟨rfl, _, rfl, k, a0, a1, a2, a3, a4, a5, a6, a7, A, N, r0, r1, r2, r3, r4, r5, r6, r7, b0, b1, b2, b3, b4, b5, b6, b7, q, q, rfl, ?_⟩⟩
    · rw [lss_eq, decide_eq_false (by omega)]
    · have : hit = hitS A q (([a0, a1, a2, a3, a4, a5, a6, a7] : List Int).getD 1 0) := by
        have e := hh.trans (hit_iff (n := q) hA ha hn).symm
        cases hit
        · cases hx : hitS A q (([a0, a1, a2, a3, a4, a5, a6, a7] : List Int).getD 1 0)
          · rfl
          · exact absurd (e.2 hx) (by simp)
        · exact (e.1 rfl).symm
      rw [this]
theorem ok1 (hw : Within Try.prog 9 (.block 4 (.loop (loopAt Try.prog 9 4)))) (s : St DC) (r : Ex DC × List (W DC)) (hr : (loopSumF (D := DC) (tm 1) (tm' 1) 8 [0, 1, 2, 3, 4, 5, 6, 7] (ask 1) (res 1) s).pick = some r) (w0 : World) (own : List Nat) (ρ : List Rb) (a : Act) (w : World) (H : SR w0 own ρ s a w) :
    (Code.block 4 (.loop (loopAt Try.prog 9 4))).wp Try.prog (CodePost w0 own ρ s r) a w := by
  refine loopSumF_ok (I := I 1) (m := fun _ e => (65 - (e.i.getD 2 0)).toNat) (Fin := F 1) cx_ok (fun e he => of_yes he) round1 ?_ hw s r hr w0 own ρ a w H
  rintro e0 e1 ⟨k, a0, a1, a2, a3, a4, a5, a6, a7, A, N, r0, r1, r2, r3, r4, r5, r6, r7, b0, b1, b2, b3, b4, b5, b6, b7, n, q, rfl, rfl⟩
  kernel_rfl
theorem round2 (e0 e : Env DC) (h : I 2 e0 e) : RoundT (I 2 e0) (fun e => (65 - (e.i.getD 2 0)).toNat) (F 2 e0) 4 e (viewT (tm 2) 8 (fun _ => [0, 1, 2, 3, 4, 5, 6, 7]) ((tm 2).fill e) (ev Try.prog cx 9 400 (.code (loopAt Try.prog 9 4)) ((tm 2).fill e))) := by
  obtain ⟨k, a0, a1, a2, a3, a4, a5, a6, a7, A, N, r0, r1, r2, r3, r4, r5, r6, r7, hit, b0, b1, b2, b3, b4, b5, b6, b7, n, q, rfl, rfl, hq, hn, hA, ha, hh⟩ := h
  by_cases hlt : q < n
  · refine ⟨_, _, route_at (goes2 k n q a0 a1 a2 a3 a4 a5 a6 a7 A N r0 r1 r2 r3 r4 r5 r6 r7 hit b0 b1 b2 b3 b4 b5 b6 b7) ?_, .inl ⟨rfl, _, rfl, ⟨k, a0, a1, a2, a3, a4, a5, a6, a7, A, N, r0, r1, r2, r3, r4, r5, r6, r7, nh A a2 q hit, b0, b1, b2, b3, b4, b5, b6, b7, n, q + 1, rfl, by rw [addi q (by omega)], hlt, hn, hA, ha, next hA ha (by omega) hh⟩, ?_⟩⟩
    · rw [lss_eq, decide_eq_true (by omega)]
    · simp only [List.getD_cons_succ, List.getD_cons_zero]
      rw [addi q (by omega)]
      omega
  · have : q = n := by omega
    subst this
    refine ⟨_, _, route_at (ends2 k q q a0 a1 a2 a3 a4 a5 a6 a7 A N r0 r1 r2 r3 r4 r5 r6 r7 hit b0 b1 b2 b3 b4 b5 b6 b7) ?_, .inr ⟨rfl, _, rfl, k, a0, a1, a2, a3, a4, a5, a6, a7, A, N, r0, r1, r2, r3, r4, r5, r6, r7, b0, b1, b2, b3, b4, b5, b6, b7, q, q, rfl, ?_⟩⟩
    · rw [lss_eq, decide_eq_false (by omega)]
    · have : hit = hitS A q (([a0, a1, a2, a3, a4, a5, a6, a7] : List Int).getD 2 0) := by
        have e := hh.trans (hit_iff (n := q) hA ha hn).symm
        cases hit
        · cases hx : hitS A q (([a0, a1, a2, a3, a4, a5, a6, a7] : List Int).getD 2 0)
          · rfl
          · exact absurd (e.2 hx) (by simp)
        · exact (e.1 rfl).symm
      rw [this]
theorem ok2 (hw : Within Try.prog 9 (.block 4 (.loop (loopAt Try.prog 9 4)))) (s : St DC) (r : Ex DC × List (W DC)) (hr : (loopSumF (D := DC) (tm 2) (tm' 2) 8 [0, 1, 2, 3, 4, 5, 6, 7] (ask 2) (res 2) s).pick = some r) (w0 : World) (own : List Nat) (ρ : List Rb) (a : Act) (w : World) (H : SR w0 own ρ s a w) :
    (Code.block 4 (.loop (loopAt Try.prog 9 4))).wp Try.prog (CodePost w0 own ρ s r) a w := by
  refine loopSumF_ok (I := I 2) (m := fun _ e => (65 - (e.i.getD 2 0)).toNat) (Fin := F 2) cx_ok (fun e he => of_yes he) round2 ?_ hw s r hr w0 own ρ a w H
  rintro e0 e1 ⟨k, a0, a1, a2, a3, a4, a5, a6, a7, A, N, r0, r1, r2, r3, r4, r5, r6, r7, b0, b1, b2, b3, b4, b5, b6, b7, n, q, rfl, rfl⟩
  kernel_rfl
theorem round3 (e0 e : Env DC) (h : I 3 e0 e) : RoundT (I 3 e0) (fun e => (65 - (e.i.getD 2 0)).toNat) (F 3 e0) 4 e (viewT (tm 3) 8 (fun _ => [0, 1, 2, 3, 4, 5, 6, 7]) ((tm 3).fill e) (ev Try.prog cx 9 400 (.code (loopAt Try.prog 9 4)) ((tm 3).fill e))) := by
  obtain ⟨k, a0, a1, a2, a3, a4, a5, a6, a7, A, N, r0, r1, r2, r3, r4, r5, r6, r7, hit, b0, b1, b2, b3, b4, b5, b6, b7, n, q, rfl, rfl, hq, hn, hA, ha, hh⟩ := h
  by_cases hlt : q < n
  · refine ⟨_, _, route_at (goes3 k n q a0 a1 a2 a3 a4 a5 a6 a7 A N r0 r1 r2 r3 r4 r5 r6 r7 hit b0 b1 b2 b3 b4 b5 b6 b7) ?_, .inl ⟨rfl, _, rfl, ⟨k, a0, a1, a2, a3, a4, a5, a6, a7, A, N, r0, r1, r2, r3, r4, r5, r6, r7, nh A a3 q hit, b0, b1, b2, b3, b4, b5, b6, b7, n, q + 1, rfl, by rw [addi q (by omega)], hlt, hn, hA, ha, next hA ha (by omega) hh⟩, ?_⟩⟩
    · rw [lss_eq, decide_eq_true (by omega)]
    · simp only [List.getD_cons_succ, List.getD_cons_zero]
      rw [addi q (by omega)]
      omega
  · have : q = n := by omega
    subst this
    refine ⟨_, _, route_at (ends3 k q q a0 a1 a2 a3 a4 a5 a6 a7 A N r0 r1 r2 r3 r4 r5 r6 r7 hit b0 b1 b2 b3 b4 b5 b6 b7) ?_, .inr ⟨rfl, _, rfl, k, a0, a1, a2, a3, a4, a5, a6, a7, A, N, r0, r1, r2, r3, r4, r5, r6, r7, b0, b1, b2, b3, b4, b5, b6, b7, q, q, rfl, ?_⟩⟩
    · rw [lss_eq, decide_eq_false (by omega)]
    · have : hit = hitS A q (([a0, a1, a2, a3, a4, a5, a6, a7] : List Int).getD 3 0) := by
        have e := hh.trans (hit_iff (n := q) hA ha hn).symm
        cases hit
        · cases hx : hitS A q (([a0, a1, a2, a3, a4, a5, a6, a7] : List Int).getD 3 0)
          · rfl
          · exact absurd (e.2 hx) (by simp)
        · exact (e.1 rfl).symm
      rw [this]
theorem ok3 (hw : Within Try.prog 9 (.block 4 (.loop (loopAt Try.prog 9 4)))) (s : St DC) (r : Ex DC × List (W DC)) (hr : (loopSumF (D := DC) (tm 3) (tm' 3) 8 [0, 1, 2, 3, 4, 5, 6, 7] (ask 3) (res 3) s).pick = some r) (w0 : World) (own : List Nat) (ρ : List Rb) (a : Act) (w : World) (H : SR w0 own ρ s a w) :
    (Code.block 4 (.loop (loopAt Try.prog 9 4))).wp Try.prog (CodePost w0 own ρ s r) a w := by
  refine loopSumF_ok (I := I 3) (m := fun _ e => (65 - (e.i.getD 2 0)).toNat) (Fin := F 3) cx_ok (fun e he => of_yes he) round3 ?_ hw s r hr w0 own ρ a w H
  rintro e0 e1 ⟨k, a0, a1, a2, a3, a4, a5, a6, a7, A, N, r0, r1, r2, r3, r4, r5, r6, r7, b0, b1, b2, b3, b4, b5, b6, b7, n, q, rfl, rfl⟩
  kernel_rfl
theorem round4 (e0 e : Env DC) (h : I 4 e0 e) : RoundT (I 4 e0) (fun e => (65 - (e.i.getD 2 0)).toNat) (F 4 e0) 4 e (viewT (tm 4) 8 (fun _ => [0, 1, 2, 3, 4, 5, 6, 7]) ((tm 4).fill e) (ev Try.prog cx 9 400 (.code (loopAt Try.prog 9 4)) ((tm 4).fill e))) := by
  obtain ⟨k, a0, a1, a2, a3, a4, a5, a6, a7, A, N, r0, r1, r2, r3, r4, r5, r6, r7, hit, b0, b1, b2, b3, b4, b5, b6, b7, n, q, rfl, rfl, hq, hn, hA, ha, hh⟩ := h
  by_cases hlt : q < n
  · refine ⟨_, _, route_at (goes4 k n q a0 a1 a2 a3 a4 a5 a6 a7 A N r0 r1 r2 r3 r4 r5 r6 r7 hit b0 b1 b2 b3 b4 b5 b6 b7) ?_, .inl ⟨rfl, _, rfl, ⟨k, a0, a1, a2, a3, a4, a5, a6, a7, A, N, r0, r1, r2, r3, r4, r5, r6, r7, nh A a4 q hit, b0, b1, b2, b3, b4, b5, b6, b7, n, q + 1, rfl, by rw [addi q (by omega)], hlt, hn, hA, ha, next hA ha (by omega) hh⟩, ?_⟩⟩
    · rw [lss_eq, decide_eq_true (by omega)]
    · simp only [List.getD_cons_succ, List.getD_cons_zero]
      rw [addi q (by omega)]
      omega
  · have : q = n := by omega
    subst this
    refine ⟨_, _, route_at (ends4 k q q a0 a1 a2 a3 a4 a5 a6 a7 A N r0 r1 r2 r3 r4 r5 r6 r7 hit b0 b1 b2 b3 b4 b5 b6 b7) ?_, .inr ⟨rfl, _, rfl, k, a0, a1, a2, a3, a4, a5, a6, a7, A, N, r0, r1, r2, r3, r4, r5, r6, r7, b0, b1, b2, b3, b4, b5, b6, b7, q, q, rfl, ?_⟩⟩
    · rw [lss_eq, decide_eq_false (by omega)]
    · have : hit = hitS A q (([a0, a1, a2, a3, a4, a5, a6, a7] : List Int).getD 4 0) := by
        have e := hh.trans (hit_iff (n := q) hA ha hn).symm
        cases hit
        · cases hx : hitS A q (([a0, a1, a2, a3, a4, a5, a6, a7] : List Int).getD 4 0)
          · rfl
          · exact absurd (e.2 hx) (by simp)
        · exact (e.1 rfl).symm
      rw [this]
theorem ok4 (hw : Within Try.prog 9 (.block 4 (.loop (loopAt Try.prog 9 4)))) (s : St DC) (r : Ex DC × List (W DC)) (hr : (loopSumF (D := DC) (tm 4) (tm' 4) 8 [0, 1, 2, 3, 4, 5, 6, 7] (ask 4) (res 4) s).pick = some r) (w0 : World) (own : List Nat) (ρ : List Rb) (a : Act) (w : World) (H : SR w0 own ρ s a w) :
    (Code.block 4 (.loop (loopAt Try.prog 9 4))).wp Try.prog (CodePost w0 own ρ s r) a w := by
  refine loopSumF_ok (I := I 4) (m := fun _ e => (65 - (e.i.getD 2 0)).toNat) (Fin := F 4) cx_ok (fun e he => of_yes he) round4 ?_ hw s r hr w0 own ρ a w H
  rintro e0 e1 ⟨k, a0, a1, a2, a3, a4, a5, a6, a7, A, N, r0, r1, r2, r3, r4, r5, r6, r7, b0, b1, b2, b3, b4, b5, b6, b7, n, q, rfl, rfl⟩
  kernel_rfl
theorem round5 (e0 e : Env DC) (h : I 5 e0 e) : RoundT (I 5 e0) (fun e => (65 - (e.i.getD 2 0)).toNat) (F 5 e0) 4 e (viewT (tm 5) 8 (fun _ => [0, 1, 2, 3, 4, 5, 6, 7]) ((tm 5).fill e) (ev Try.prog cx 9 400 (.code (loopAt Try.prog 9 4)) ((tm 5).fill e))) := by
  obtain ⟨k, a0, a1, a2, a3, a4, a5, a6, a7, A, N, r0, r1, r2, r3, r4, r5, r6, r7, hit, b0, b1, b2, b3, b4, b5, b6, b7, n, q, rfl, rfl, hq, hn, hA, ha, hh⟩ := h
  by_cases hlt : q < n
  · refine ⟨_, _, route_at (goes5 k n q a0 a1 a2 a3 a4 a5 a6 a7 A N r0 r1 r2 r3 r4 r5 r6 r7 hit b0 b1 b2 b3 b4 b5 b6 b7) ?_, .inl ⟨rfl, _, rfl, ⟨k, a0, a1, a2, a3, a4, a5, a6, a7, A, N, r0, r1, r2, r3, r4, r5, r6, r7, nh A a5 q hit, b0, b1, b2, b3, b4, b5, b6, b7, n, q + 1, rfl, by rw [addi q (by omega)], hlt, hn, hA, ha, next hA ha (by omega) hh⟩, ?_⟩⟩
    · rw [lss_eq, decide_eq_true (by omega)]
    · simp only [List.getD_cons_succ, List.getD_cons_zero]
      rw [addi q (by omega)]
      omega
  · have : q = n := by omega
    subst this
    refine ⟨_, _, route_at (ends5 k q q a0 a1 a2 a3 a4 a5 a6 a7 A N r0 r1 r2 r3 r4 r5 r6 r7 hit b0 b1 b2 b3 b4 b5 b6 b7) ?_, .inr ⟨rfl, _, rfl, k, a0, a1, a2, a3, a4, a5, a6, a7, A, N, r0, r1, r2, r3, r4, r5, r6, r7, b0, b1, b2, b3, b4, b5, b6, b7, q, q, rfl, ?_⟩⟩
    · rw [lss_eq, decide_eq_false (by omega)]
    · have : hit = hitS A q (([a0, a1, a2, a3, a4, a5, a6, a7] : List Int).getD 5 0) := by
        have e := hh.trans (hit_iff (n := q) hA ha hn).symm
        cases hit
        · cases hx : hitS A q (([a0, a1, a2, a3, a4, a5, a6, a7] : List Int).getD 5 0)
          · rfl
          · exact absurd (e.2 hx) (by simp)
        · exact (e.1 rfl).symm
      rw [this]
theorem ok5 (hw : Within Try.prog 9 (.block 4 (.loop (loopAt Try.prog 9 4)))) (s : St DC) (r : Ex DC × List (W DC)) (hr : (loopSumF (D := DC) (tm 5) (tm' 5) 8 [0, 1, 2, 3, 4, 5, 6, 7] (ask 5) (res 5) s).pick = some r) (w0 : World) (own : List Nat) (ρ : List Rb) (a : Act) (w : World) (H : SR w0 own ρ s a w) :
    (Code.block 4 (.loop (loopAt Try.prog 9 4))).wp Try.prog (CodePost w0 own ρ s r) a w := by
  refine loopSumF_ok (I := I 5) (m := fun _ e => (65 - (e.i.getD 2 0)).toNat) (Fin := F 5) cx_ok (fun e he => of_yes he) round5 ?_ hw s r hr w0 own ρ a w H
  rintro e0 e1 ⟨k, a0, a1, a2, a3, a4, a5, a6, a7, A, N, r0, r1, r2, r3, r4, r5, r6, r7, b0, b1, b2, b3, b4, b5, b6, b7, n, q, rfl, rfl⟩
  kernel_rfl
theorem round6 (e0 e : Env DC) (h : I 6 e0 e) : RoundT (I 6 e0) (fun e => (65 - (e.i.getD 2 0)).toNat) (F 6 e0) 4 e (viewT (tm 6) 8 (fun _ => [0, 1, 2, 3, 4, 5, 6, 7]) ((tm 6).fill e) (ev Try.prog cx 9 400 (.code (loopAt Try.prog 9 4)) ((tm 6).fill e))) := by
  obtain ⟨k, a0, a1, a2, a3, a4, a5, a6, a7, A, N, r0, r1, r2, r3, r4, r5, r6, r7, hit, b0, b1, b2, b3, b4, b5, b6, b7, n, q, rfl, rfl, hq, hn, hA, ha, hh⟩ := h
  by_cases hlt : q < n
  · refine ⟨_, _, route_at (goes6 k n q a0 a1 a2 a3 a4 a5 a6 a7 A N r0 r1 r2 r3 r4 r5 r6 r7 hit b0 b1 b2 b3 b4 b5 b6 b7) ?_, .inl ⟨rfl, _, rfl, ⟨k, a0, a1, a2, a3, a4, a5, a6, a7, A, N, r0, r1, r2, r3, r4, r5, r6, r7, nh A a6 q hit, b0, b1, b2, b3, b4, b5, b6, b7, n, q + 1, rfl, by rw [addi q (by omega)], hlt, hn, hA, ha, next hA ha (by omega) hh⟩, ?_⟩⟩
    · rw [lss_eq, decide_eq_true (by omega)]
    · simp only [List.getD_cons_succ, List.getD_cons_zero]
      rw [addi q (by omega)]
      omega
  · have : q = n := by omega
    subst this
    refine ⟨_, _, route_at (ends6 k q q a0 a1 a2 a3 a4 a5 a6 a7 A N r0 r1 r2 r3 r4 r5 r6 r7 hit b0 b1 b2 b3 b4 b5 b6 b7) ?_, .inr ⟨rfl, _, rfl, k, a0, a1, a2, a3, a4, a5, a6, a7, A, N, r0, r1, r2, r3, r4, r5, r6, r7, b0, b1, b2, b3, b4, b5, b6, b7, q, q, rfl, ?_⟩⟩
    · rw [lss_eq, decide_eq_false (by omega)]
    · have : hit = hitS A q (([a0, a1, a2, a3, a4, a5, a6, a7] : List Int).getD 6 0) := by
        have e := hh.trans (hit_iff (n := q) hA ha hn).symm
        cases hit
        · cases hx : hitS A q (([a0, a1, a2, a3, a4, a5, a6, a7] : List Int).getD 6 0)
          · rfl
          · exact absurd (e.2 hx) (by simp)
        · exact (e.1 rfl).symm
      rw [this]
theorem ok6 (hw : Within Try.prog 9 (.block 4 (.loop (loopAt Try.prog 9 4)))) (s : St DC) (r : Ex DC × List (W DC)) (hr : (loopSumF (D := DC) (tm 6) (tm' 6) 8 [0, 1, 2, 3, 4, 5, 6, 7] (ask 6) (res 6) s).pick = some r) (w0 : World) (own : List Nat) (ρ : List Rb) (a : Act) (w : World) (H : SR w0 own ρ s a w) :
    (Code.block 4 (.loop (loopAt Try.prog 9 4))).wp Try.prog (CodePost w0 own ρ s r) a w := by
  refine loopSumF_ok (I := I 6) (m := fun _ e => (65 - (e.i.getD 2 0)).toNat) (Fin := F 6) cx_ok (fun e he => of_yes he) round6 ?_ hw s r hr w0 own ρ a w H
  rintro e0 e1 ⟨k, a0, a1, a2, a3, a4, a5, a6, a7, A, N, r0, r1, r2, r3, r4, r5, r6, r7, b0, b1, b2, b3, b4, b5, b6, b7, n, q, rfl, rfl⟩
  kernel_rfl
theorem round7 (e0 e : Env DC) (h : I 7 e0 e) : RoundT (I 7 e0) (fun e => (65 - (e.i.getD 2 0)).toNat) (F 7 e0) 4 e (viewT (tm 7) 8 (fun _ => [0, 1, 2, 3, 4, 5, 6, 7]) ((tm 7).fill e) (ev Try.prog cx 9 400 (.code (loopAt Try.prog 9 4)) ((tm 7).fill e))) := by
  obtain ⟨k, a0, a1, a2, a3, a4, a5, a6, a7, A, N, r0, r1, r2, r3, r4, r5, r6, r7, hit, b0, b1, b2, b3, b4, b5, b6, b7, n, q, rfl, rfl, hq, hn, hA, ha, hh⟩ := h
  by_cases hlt : q < n
  · refine ⟨_, _, route_at (goes7 k n q a0 a1 a2 a3 a4 a5 a6 a7 A N r0 r1 r2 r3 r4 r5 r6 r7 hit b0 b1 b2 b3 b4 b5 b6 b7) ?_, .inl ⟨rfl, _, rfl, ⟨k, a0, a1, a2, a3, a4, a5, a6, a7, A, N, r0, r1, r2, r3, r4, r5, r6, r7, nh A a7 q hit, b0, b1, b2, b3, b4, b5, b6, b7, n, q + 1, rfl, by rw [addi q (by omega)], hlt, hn, hA, ha, next hA ha (by omega) hh⟩, ?_⟩⟩
    · rw [lss_eq, decide_eq_true (by omega)]
    · simp only [List.getD_cons_succ, List.getD_cons_zero]
      rw [addi q (by omega)]
      omega
  · have : q = n := by omega
    subst this
    refine ⟨_, _, route_at (ends7 k q q a0 a1 a2 a3 a4 a5 a6 a7 A N r0 r1 r2 r3 r4 r5 r6 r7 hit b0 b1 b2 b3 b4 b5 b6 b7) ?_, .inr ⟨rfl, _, rfl, k, a0, a1, a2, a3, a4, a5, a6, a7, A, N, r0, r1, r2, r3, r4, r5, r6, r7, b0, b1, b2, b3, b4, b5, b6, b7, q, q, rfl, ?_⟩⟩
    · rw [lss_eq, decide_eq_false (by omega)]
    · have : hit = hitS A q (([a0, a1, a2, a3, a4, a5, a6, a7] : List Int).getD 7 0) := by
        have e := hh.trans (hit_iff (n := q) hA ha hn).symm
        cases hit
        · cases hx : hitS A q (([a0, a1, a2, a3, a4, a5, a6, a7] : List Int).getD 7 0)
          · rfl
          · exact absurd (e.2 hx) (by simp)
        · exact (e.1 rfl).symm
      rw [this]
theorem ok7 (hw : Within Try.prog 9 (.block 4 (.loop (loopAt Try.prog 9 4)))) (s : St DC) (r : Ex DC × List (W DC)) (hr : (loopSumF (D := DC) (tm 7) (tm' 7) 8 [0, 1, 2, 3, 4, 5, 6, 7] (ask 7) (res 7) s).pick = some r) (w0 : World) (own : List Nat) (ρ : List Rb) (a : Act) (w : World) (H : SR w0 own ρ s a w) :
    (Code.block 4 (.loop (loopAt Try.prog 9 4))).wp Try.prog (CodePost w0 own ρ s r) a w := by
  refine loopSumF_ok (I := I 7) (m := fun _ e => (65 - (e.i.getD 2 0)).toNat) (Fin := F 7) cx_ok (fun e he => of_yes he) round7 ?_ hw s r hr w0 own ρ a w H
  rintro e0 e1 ⟨k, a0, a1, a2, a3, a4, a5, a6, a7, A, N, r0, r1, r2, r3, r4, r5, r6, r7, b0, b1, b2, b3, b4, b5, b6, b7, n, q, rfl, rfl⟩
  kernel_rfl
theorem X_ok : Ok Try.prog X := by
  refine cx_ok.block (by kernel_rfl) fun hw s r hr => ?_
  unfold g at hr
  split at hr
  · exact ok0 hw s r hr
  · exact ok1 hw s r hr
  · exact ok2 hw s r hr
  · exact ok3 hw s r hr
  · exact ok4 hw s r hr
  · exact ok5 hw s r hr
  · exact ok6 hw s r hr
  · exact ok7 hw s r hr
  · cases hr

def KK (h : Int) : Int := IntKind.wrap .i64 (litBin .and .u8 h 7)
def nn (N : Int) : Int := litBin .rem .i64 (IntKind.wrap .i64 N) 65
def gu (K n : Int) : Bool := cond (cond (litCmp .lss K 0) true (litCmp .geq K 8)) true (litCmp .lss n 1)
def isI (i K n A a : Int) : Bool := cond (gu K n) true (!(cond (litCmp .neq i K) (hc A n a) false))
def atI (i K n A a : Int) : Int := cond (gu K n) (litBin .andNot .u64 a 7) (cond (cond (litCmp .neq i K) (hc A n a) false) 0 (litBin .andNot .u64 a 7))
def ts (i K n A a : Int) : Bool := cond (litCmp .eql i K) (!((!(!(isI i K n A a))) == true)) (!((!(!(isI i K n A a))) == (!(hitS A n a))))
def rg (K : Int) : Bool := cond (cond (litCmp .lss K 0) true (litCmp .geq K 8)) true (decide (0 ≤ K ∧ K < ((8 : Nat) : Int)))
noncomputable def asks (i : Nat) (a0 a1 a2 a3 a4 a5 a6 a7 h A N : Int) : Bool := ask i ⟨[KK h, nn N, 0, a0, a1, a2, a3, a4, a5, a6, a7, A, N, atI 0 (KK h) (nn N) A a0, atI 1 (KK h) (nn N) A a1, atI 2 (KK h) (nn N) A a2, atI 3 (KK h) (nn N) A a3, atI 4 (KK h) (nn N) A a4, atI 5 (KK h) (nn N) A a5, atI 6 (KK h) (nn N) A a6, atI 7 (KK h) (nn N) A a7], [false, isI 0 (KK h) (nn N) A a0, isI 1 (KK h) (nn N) A a1, isI 2 (KK h) (nn N) A a2, isI 3 (KK h) (nn N) A a3, isI 4 (KK h) (nn N) A a4, isI 5 (KK h) (nn N) A a5, isI 6 (KK h) (nn N) A a6, isI 7 (KK h) (nn N) A a7], [], []⟩
set_option maxRecDepth 100000 in
theorem road (a0 a1 a2 a3 a4 a5 a6 a7 h A N : Int) : ((call Try.prog X 400 9 [.agg [.int .u64 (.sym a0), .int .u64 (.sym a1), .int .u64 (.sym a2), .int .u64 (.sym a3), .int .u64 (.sym a4), .int .u64 (.sym a5), .int .u64 (.sym a6), .int .u64 (.sym a7)], .int .u8 (.sym h), .agg [.int .u64 (.sym A), .int .u8 (.sym N)]] []).route [true, true, false, true, false, true, false, true, false, true, false, true, false, true, false, true, false]).map (fun p => (p.1, p.2.1)) = some ([rg (KK h), asks 0 a0 a1 a2 a3 a4 a5 a6 a7 h A N, ts 0 (KK h) (nn N) A a0, asks 1 a0 a1 a2 a3 a4 a5 a6 a7 h A N, ts 1 (KK h) (nn N) A a1, asks 2 a0 a1 a2 a3 a4 a5 a6 a7 h A N, ts 2 (KK h) (nn N) A a2, asks 3 a0 a1 a2 a3 a4 a5 a6 a7 h A N, ts 3 (KK h) (nn N) A a3, asks 4 a0 a1 a2 a3 a4 a5 a6 a7 h A N, ts 4 (KK h) (nn N) A a4, asks 5 a0 a1 a2 a3 a4 a5 a6 a7 h A N, ts 5 (KK h) (nn N) A a5, asks 6 a0 a1 a2 a3 a4 a5 a6 a7 h A N, ts 6 (KK h) (nn N) A a6, asks 7 a0 a1 a2 a3 a4 a5 a6 a7 h A N, ts 7 (KK h) (nn N) A a7], .val (.bool (.lit true))) := by kernel_rfl

theorem eql_s (x : Int) : litCmp .eql x x = true := by rw [eql_eq]; exact decide_eq_true rfl
theorem KK_in {h : Int} (wh : 0 ≤ h ∧ h < 256) : 0 ≤ KK h ∧ KK h < 8 := by
  have : ∀ n : Fin 256, 0 ≤ KK ((n.val : Nat) : Int) ∧ KK ((n.val : Nat) : Int) < 8 := by decide +kernel
  have h2 := this ⟨h.toNat, by omega⟩
  have e : ((h.toNat : Nat) : Int) = h := by omega
  simp only [e] at h2
  exact h2
theorem nn_in {N : Int} (wN : 0 ≤ N ∧ N < 256) : ∃ m : Nat, m ≤ 64 ∧ nn N = (m : Int) := by
  have : nn N = (IntKind.wrap .i64 N).tmod 65 := rfl
  rw [wrapi, Int.emod_eq_of_lt (by omega) (by omega)] at this
  rw [show N + 9223372036854775808 - 9223372036854775808 = N by omega, Int.tmod_eq_emod_of_nonneg wN.1] at this
  exact ⟨(N % 65).toNat, by omega, by rw [this]; omega⟩
theorem rg_t (K : Int) : rg K = true := by
  unfold rg
  rw [lss_eq, geq_eq]
  by_cases h1 : K < 0
  · rw [decide_eq_true h1]; rfl
  · by_cases h2 : 8 ≤ K
    · rw [decide_eq_true h2, Bool.cond_self]; rfl
    · rw [decide_eq_false h1, decide_eq_false h2, decide_eq_true (show 0 ≤ K ∧ K < ((8 : Nat) : Int) by omega)]; rfl
theorem ts_f {i K n A a : Int} (hK : 0 ≤ K ∧ K < 8) : ts i K n A a = false := by
  unfold ts isI gu hitS
  rw [lss_eq, geq_eq, decide_eq_false (by omega : ¬ K < 0), decide_eq_false (by omega : ¬ 8 ≤ K), neq_eq, eql_eq]
  cases decide (i = K) <;> cases litCmp .lss n 1 <;> cases hc A n a <;> rfl
theorem law {a0 a1 a2 a3 a4 a5 a6 a7 h A N : Int} (wa0 : (Lit.int .u64 a0).wf = true) (wa1 : (Lit.int .u64 a1).wf = true) (wa2 : (Lit.int .u64 a2).wf = true) (wa3 : (Lit.int .u64 a3).wf = true) (wa4 : (Lit.int .u64 a4).wf = true) (wa5 : (Lit.int .u64 a5).wf = true) (wa6 : (Lit.int .u64 a6).wf = true) (wa7 : (Lit.int .u64 a7).wf = true) (wh : (Lit.int .u8 h).wf = true) (wA : (Lit.int .u64 A).wf = true) (wN : (Lit.int .u8 N).wf = true) : [rg (KK h), asks 0 a0 a1 a2 a3 a4 a5 a6 a7 h A N, ts 0 (KK h) (nn N) A a0, asks 1 a0 a1 a2 a3 a4 a5 a6 a7 h A N, ts 1 (KK h) (nn N) A a1, asks 2 a0 a1 a2 a3 a4 a5 a6 a7 h A N, ts 2 (KK h) (nn N) A a2, asks 3 a0 a1 a2 a3 a4 a5 a6 a7 h A N, ts 3 (KK h) (nn N) A a3, asks 4 a0 a1 a2 a3 a4 a5 a6 a7 h A N, ts 4 (KK h) (nn N) A a4, asks 5 a0 a1 a2 a3 a4 a5 a6 a7 h A N, ts 5 (KK h) (nn N) A a5, asks 6 a0 a1 a2 a3 a4 a5 a6 a7 h A N, ts 6 (KK h) (nn N) A a6, asks 7 a0 a1 a2 a3 a4 a5 a6 a7 h A N, ts 7 (KK h) (nn N) A a7] = [true, true, false, true, false, true, false, true, false, true, false, true, false, true, false, true, false] := by
  have hK := KK_in (wf8 wh)
  obtain ⟨m, hm, em⟩ := nn_in (wf8 wN)
  have hA := inU_wf wA
  have k0 : asks 0 a0 a1 a2 a3 a4 a5 a6 a7 h A N = true := yes_of ⟨_, a0, a1, a2, a3, a4, a5, a6, a7, A, N, _, _, _, _, _, _, _, _, false, _, _, _, _, _, _, _, _, m, 0, by first | (rw [← em]; done) | (rw [← em]; rfl), by first | (rw [← em]; done) | (rw [← em]; rfl), Nat.zero_le _, hm, hA, inU_wf wa0, ⟨fun h => (by cases h), fun ⟨_, h, _⟩ => (by omega)⟩⟩
  have k1 : asks 1 a0 a1 a2 a3 a4 a5 a6 a7 h A N = true := yes_of ⟨_, a0, a1, a2, a3, a4, a5, a6, a7, A, N, _, _, _, _, _, _, _, _, false, _, _, _, _, _, _, _, _, m, 0, by first | (rw [← em]; done) | (rw [← em]; rfl), by first | (rw [← em]; done) | (rw [← em]; rfl), Nat.zero_le _, hm, hA, inU_wf wa1, ⟨fun h => (by cases h), fun ⟨_, h, _⟩ => (by omega)⟩⟩
  have k2 : asks 2 a0 a1 a2 a3 a4 a5 a6 a7 h A N = true := yes_of ⟨_, a0, a1, a2, a3, a4, a5, a6, a7, A, N, _, _, _, _, _, _, _, _, false, _, _, _, _, _, _, _, _, m, 0, by first | (rw [← em]; done) | (rw [← em]; rfl), by first | (rw [← em]; done) | (rw [← em]; rfl), Nat.zero_le _, hm, hA, inU_wf wa2, ⟨fun h => (by cases h), fun ⟨_, h, _⟩ => (by omega)⟩⟩
  have k3 : asks 3 a0 a1 a2 a3 a4 a5 a6 a7 h A N = true := yes_of ⟨_, a0, a1, a2, a3, a4, a5, a6, a7, A, N, _, _, _, _, _, _, _, _, false, _, _, _, _, _, _, _, _, m, 0, by first | (rw [← em]; done) | (rw [← em]; rfl), by first | (rw [← em]; done) | (rw [← em]; rfl), Nat.zero_le _, hm, hA, inU_wf wa3, ⟨fun h => (by cases h), fun ⟨_, h, _⟩ => (by omega)⟩⟩
  have k4 : asks 4 a0 a1 a2 a3 a4 a5 a6 a7 h A N = true := yes_of ⟨_, a0, a1, a2, a3, a4, a5, a6, a7, A, N, _, _, _, _, _, _, _, _, false, _, _, _, _, _, _, _, _, m, 0, by first | (rw [← em]; done) | (rw [← em]; rfl), by first | (rw [← em]; done) | (rw [← em]; rfl), Nat.zero_le _, hm, hA, inU_wf wa4, ⟨fun h => (by cases h), fun ⟨_, h, _⟩ => (by omega)⟩⟩
  have k5 : asks 5 a0 a1 a2 a3 a4 a5 a6 a7 h A N = true := yes_of ⟨_, a0, a1, a2, a3, a4, a5, a6, a7, A, N, _, _, _, _, _, _, _, _, false, _, _, _, _, _, _, _, _, m, 0, by first | (rw [← em]; done) | (rw [← em]; rfl), by first | (rw [← em]; done) | (rw [← em]; rfl), Nat.zero_le _, hm, hA, inU_wf wa5, ⟨fun h => (by cases h), fun ⟨_, h, _⟩ => (by omega)⟩⟩
  have k6 : asks 6 a0 a1 a2 a3 a4 a5 a6 a7 h A N = true := yes_of ⟨_, a0, a1, a2, a3, a4, a5, a6, a7, A, N, _, _, _, _, _, _, _, _, false, _, _, _, _, _, _, _, _, m, 0, by first | (rw [← em]; done) | (rw [← em]; rfl), by first | (rw [← em]; done) | (rw [← em]; rfl), Nat.zero_le _, hm, hA, inU_wf wa6, ⟨fun h => (by cases h), fun ⟨_, h, _⟩ => (by omega)⟩⟩
  have k7 : asks 7 a0 a1 a2 a3 a4 a5 a6 a7 h A N = true := yes_of ⟨_, a0, a1, a2, a3, a4, a5, a6, a7, A, N, _, _, _, _, _, _, _, _, false, _, _, _, _, _, _, _, _, m, 0, by first | (rw [← em]; done) | (rw [← em]; rfl), by first | (rw [← em]; done) | (rw [← em]; rfl), Nat.zero_le _, hm, hA, inU_wf wa7, ⟨fun h => (by cases h), fun ⟨_, h, _⟩ => (by omega)⟩⟩
  rw [rg_t, k0, k1, k2, k3, k4, k5, k6, k7, ts_f hK, ts_f hK, ts_f hK, ts_f hK, ts_f hK, ts_f hK, ts_f hK, ts_f hK]

theorem sums (a0 a1 a2 a3 a4 a5 a6 a7 h A N : Int) (wa0 : (Lit.int .u64 a0).wf = true) (wa1 : (Lit.int .u64 a1).wf = true) (wa2 : (Lit.int .u64 a2).wf = true) (wa3 : (Lit.int .u64 a3).wf = true) (wa4 : (Lit.int .u64 a4).wf = true) (wa5 : (Lit.int .u64 a5).wf = true) (wa6 : (Lit.int .u64 a6).wf = true) (wa7 : (Lit.int .u64 a7).wf = true) (wh : (Lit.int .u8 h).wf = true) (wA : (Lit.int .u64 A).wf = true) (wN : (Lit.int .u8 N).wf = true) :
    ∃ l, (call Try.prog X 400 9 [.agg [.int .u64 (.sym a0), .int .u64 (.sym a1), .int .u64 (.sym a2), .int .u64 (.sym a3), .int .u64 (.sym a4), .int .u64 (.sym a5), .int .u64 (.sym a6), .int .u64 (.sym a7)], .int .u8 (.sym h), .agg [.int .u64 (.sym A), .int .u8 (.sym N)]] []).pick = some (.val (.bool (.lit true)), l) :=
  road_at (road a0 a1 a2 a3 a4 a5 a6 a7 h A N) (law wa0 wa1 wa2 wa3 wa4 wa5 wa6 wa7 wh wA wN)

theorem lit_true {P : Program} {X : Cx DC} (hX : Ok P X) {n : Nat} {f : FuncId} {vs : List Value} {args : List (AV DC)} {l : List (W DC)} (ha : vs.map absV = args) (hr : (call P X n f args []).pick = some (.val (.bool (.lit true)), l)) (w : World) : Calls P f vs.toArray w fun e w' => e = .returned (.bool true) ∧ Below w.heap.size w w' := by
  subst ha
  refine (law_sound hX hr (vals := vs.toArray) (absVs_rel vs) w).mono fun e w' hp => ?_
  obtain ⟨u, ρ, e1, e2, e3⟩ := hp
  have e2' : u = .bool true := e2
  rw [e1, e2']
  exact ⟨rfl, e3⟩
set_option maxRecDepth 100000 in
set_option maxHeartbeats 4000000 in
theorem run : ∀ vs, ArgsOk [.agg [.int .u64, .int .u64, .int .u64, .int .u64, .int .u64, .int .u64, .int .u64, .int .u64], .one (.int .u8), .agg [.int .u64, .int .u8]] vs → ∀ w, Calls Try.prog 9 vs.toArray w fun e w' => e = .returned (.bool true) ∧ Below w.heap.size w w' := by
  intro vs h w
  obtain ⟨_, _, rfl, ⟨_, rfl, _, _, rfl, ⟨a0, rfl, wa0⟩, _, _, rfl, ⟨a1, rfl, wa1⟩, _, _, rfl, ⟨a2, rfl, wa2⟩, _, _, rfl, ⟨a3, rfl, wa3⟩, _, _, rfl, ⟨a4, rfl, wa4⟩, _, _, rfl, ⟨a5, rfl, wa5⟩, _, _, rfl, ⟨a6, rfl, wa6⟩, _, _, rfl, ⟨a7, rfl, wa7⟩, rfl⟩, _, _, rfl, ⟨h, rfl, wh⟩, _, _, rfl, ⟨_, rfl, _, _, rfl, ⟨A, rfl, wA⟩, _, _, rfl, ⟨N, rfl, wN⟩, rfl⟩, rfl⟩ := h
  obtain ⟨l, k1⟩ := sums a0 a1 a2 a3 a4 a5 a6 a7 h A N wa0 wa1 wa2 wa3 wa4 wa5 wa6 wa7 wh wA wN
  have k3 := (rfl : List.map absV [.agg [.int .u64 a0, .int .u64 a1, .int .u64 a2, .int .u64 a3, .int .u64 a4, .int .u64 a5, .int .u64 a6, .int .u64 a7].toArray, .int .u8 h, .agg [.int .u64 A, .int .u8 N].toArray] = [.agg [.int .u64 (.sym a0), .int .u64 (.sym a1), .int .u64 (.sym a2), .int .u64 (.sym a3), .int .u64 (.sym a4), .int .u64 (.sym a5), .int .u64 (.sym a6), .int .u64 (.sym a7)], .int .u8 (.sym h), .agg [.int .u64 (.sym A), .int .u8 (.sym N)]])
  have k4 := lit_true X_ok k3 k1 w
  exact k4

set_option maxRecDepth 100000 in
theorem lifted (os : Os) (started : os.Started) (H : Type) (enc : TypeId × Value → H) :
    ReturnsInHanded {} Try.checked os 9 .any (Rows.amoStoresSpec.pre6 enc Try.prog Try.f9 Rows.amoStoresRow.domain false) (Rows.amoStoresSpec.post enc Try.prog Try.f9 false true false false) := by
  refine returnsInHanded_of_change (C := Try.checked) own started (by kernel_rfl) Try.func9
    (ChangeSpec.witness6 (enc := enc) (C := Try.checked) false ⟨#[], #[.agg #[.int .u64 0, .int .u64 0, .int .u64 0, .int .u64 0, .int .u64 0, .int .u64 0, .int .u64 0, .int .u64 0], .int .u8 0, .agg #[.int .u64 0, .int .u8 0]], []⟩ 8 (by kernel_rfl) (by kernel_rfl) (by kernel_rfl) (by kernel_rfl)) ?_
  intro W base args ds gs before hval hW _ _
  exact lifted_plain (P := Try.prog) (f := 9) (fn := Try.f9) (s := Rows.amoStoresSpec) (tb := 4) rfl
    (fun ds h => by
      match ds, h with
      | [d1, d2, d3], _ => rfl)
    (by kernel_rfl) rfl (by kernel_rfl) run W base args ds gs before hval hW

theorem over : Rows.amoStoresRow.holds Try.pinned (OpenSpec.ofChange Rows.amoStoresSpec) :=
  OpenClaim.holds_of_wide 9 Try.f9 rfl rfl rfl rfl rfl rfl rfl ⟨rfl, rfl, rfl, rfl, rfl⟩ rfl rfl rfl rfl rfl (by kernel_rfl) Try.func9 (by kernel_rfl)
    (of_decide_eq_true (by kernel_rfl)) (by unfold Func.isWrapper; first | (rw [if_pos (by decide +kernel)]; kernel_rfl) | (rw [if_neg (by decide +kernel)]; exact ⟨rfl, rfl⟩))
    (fun os started H enc _ => lifted os started H enc)

/-- The statement. -/
theorem proved : Rows.AmoStoresSaid :=
  over
#print axioms proved
end Go.Proofs.Ytgljicadcegilaa.AmoStores
