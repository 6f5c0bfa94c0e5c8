/- One round of the statement 'AmoPlays': a clone. Conditions: none. -/
import Derived.Test.YtgljicadcegilaaAmoPlaysA
namespace Go.Proofs.Ytgljicadcegilaa.AmoPlays
open Go.RowKit Go.WideShapes Go.ChangeShapes Go.ChangeAt Ev
set_option linter.unusedVariables false
set_option linter.unusedSimpArgs false

set_option maxRecDepth 100000 in
theorem goes3 (i A0 A1 A2 A3 A4 A5 A6 A7 a0 a1 a2 a3 a4 a5 a6 a7 : Int) (S0 S1 S2 S3 S4 S5 S6 S7 s0 s1 s2 s3 s4 s5 s6 s7 : Bool) (n : Nat) (F G H M : Nat → Int) : (viewT tm 8 ls (tm.fill ⟨[i, A0, A1, A2, A3, A4, A5, A6, A7, a0, a1, a2, a3, a4, a5, a6, a7], [S0, S1, S2, S3, S4, S5, S6, S7, s0, s1, s2, s3, s4, s5, s6, s7], [n, n], [F, G, H, M]⟩) (ev Try.prog cxs2 10 400 (.code (loopAt Try.prog 10 0)) (tm.fill ⟨[i, A0, A1, A2, A3, A4, A5, A6, A7, a0, a1, a2, a3, a4, a5, a6, a7], [S0, S1, S2, S3, S4, S5, S6, S7, s0, s1, s2, s3, s4, s5, s6, s7], [n, n], [F, G, H, M]⟩))).route [true, true, false, false, false, true, false] = some ([g0 i n, g1 i n, litCmp .eql (kd (F (Int.toNat i))) 0, litCmp .eql (kd (F (Int.toNat i))) 1, litCmp .eql (kd (F (Int.toNat i))) 2, litCmp .eql (kd (F (Int.toNat i))) 3, !(cond (bad S0 s0 A0 a0) false (cond (bad S1 s1 A1 a1) false (cond (bad S2 s2 A2 a2) false (cond (bad S3 s3 A3 a3) false (cond (bad S4 s4 A4 a4) false (cond (bad S5 s5 A5 a5) false (cond (bad S6 s6 A6 a6) false (!(bad S7 s7 A7 a7)))))))))], (.normal, some ⟨[litBin .add .i64 i 1, A0, A1, A2, A3, A4, A5, A6, A7, a0, a1, a2, a3, a4, a5, a6, a7], [S0, S1, S2, S3, S4, S5, S6, S7, s0, s1, s2, s3, s4, s5, s6, s7], [n, n], [F, G, H, M]⟩)) := by kernel_rfl
end Go.Proofs.Ytgljicadcegilaa.AmoPlays
