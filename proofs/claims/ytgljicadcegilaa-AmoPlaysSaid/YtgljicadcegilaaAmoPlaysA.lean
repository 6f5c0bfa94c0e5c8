/- One round of the statement 'AmoPlays': the terms, and a reservation that is made. Conditions: none. -/
import Derived.Test.YtgljicadcegilaaResAll
namespace Go.Proofs.Ytgljicadcegilaa.AmoPlays
open Go.RowKit Go.WideShapes Go.ChangeShapes Go.ChangeAt Ev
set_option linter.unusedVariables false
set_option linter.unusedSimpArgs false

/-- The state at the loop's head: the reservations stand at a block of their own number, for it is another one behind a clone. -/
def tm : Tmpl := { slots := [.slice 0 0 .any, .skip, .truth false, .skip, .ptr 8 0, .ptr 7 0, .int .i64] ++ List.replicate 127 .skip, heap := [.rows 0 [.int .u8, .int .i64, .int .u64, .int .i64], .skip, .skip, .skip, .skip, .skip, .skip, .cells 54 [.bool, .bool, .bool, .bool, .bool, .bool, .bool, .bool, .int .u64, .int .u64, .int .u64, .int .u64, .int .u64, .int .u64, .int .u64, .int .u64], .cells 88 [.int .u64, .bool, .int .u64, .bool, .int .u64, .bool, .int .u64, .bool, .int .u64, .bool, .int .u64, .bool, .int .u64, .bool, .int .u64, .bool]] }
def tm' : Tmpl := { slots := List.replicate 134 .skip, heap := List.replicate 9 .skip }
def ls (s : St DC) : List Nat := match s.slots.getD 4 .dead with
  | .ptr b _ => [0, 1, 2, 3, 4, 5, 6, 7, b]
  | _ => []

def kd (f : Int) : Int := litBin .and .u8 f 3
def unk (g : Int) : Bool := cond (litCmp .lss g 0) true (litCmp .geq g 8)
def rg (g : Int) : Bool := decide (0 ≤ g ∧ g < ((8 : Nat) : Int))
def ok (g : Int) : Bool := rg g && (decide ((Int.toNat g) < 8))
def g0 (i : Int) (n : Nat) : Bool := cond (litCmp .lss i ((n : Nat) : Int)) (litCmp .lss i 60) false
def g1 (i : Int) (n : Nat) : Bool := (decide (0 ≤ i ∧ i < ((n : Nat) : Int))) && (decide ((Int.toNat i) < n))
def t0 (g : Int) : Bool := (cond (unk g) true (ok g)) && (cond (inG g) ((ok g) && (ok g)) true)
def setA (g h : Int) (k : Nat) (A : Int) : Int := cond (inG g) (cond (decide ((Int.toNat g) = k)) (litBin .sub .u64 h (litBin .rem .u64 h 8)) A) A
def setS (g : Int) (k : Nat) (S : Bool) : Bool := cond (inG g) (cond (decide ((Int.toNat g) = k)) true S) S
def seta (g h : Int) (k : Nat) (a : Int) : Int := cond (unk g) a (cond (decide ((Int.toNat g) = k)) (litBin .andNot .u64 h 7) a)
def sets (g : Int) (k : Nat) (s : Bool) : Bool := cond (unk g) s (cond (decide ((Int.toNat g) = k)) true s)
def takS (g : Int) (k : Nat) (S : Bool) : Bool := cond (!(inG g)) S (cond (decide ((Int.toNat g) = k)) false S)
def taka (g : Int) (k : Nat) (a : Int) : Int := cond (unk g) a (cond (decide ((Int.toNat g) = k)) 0 a)
def taks (g : Int) (k : Nat) (s : Bool) : Bool := cond (unk g) s (cond (decide ((Int.toNat g) = k)) false s)
def selB (g : Int) (s0 s1 s2 s3 s4 s5 s6 s7 : Bool) : Bool := (cond (decide ((Int.toNat g) = 0)) s0 (cond (decide ((Int.toNat g) = 1)) s1 (cond (decide ((Int.toNat g) = 2)) s2 (cond (decide ((Int.toNat g) = 3)) s3 (cond (decide ((Int.toNat g) = 4)) s4 (cond (decide ((Int.toNat g) = 5)) s5 (cond (decide ((Int.toNat g) = 6)) s6 s7)))))))
def selI (g a0 a1 a2 a3 a4 a5 a6 a7 : Int) : Int := (cond (decide ((Int.toNat g) = 0)) a0 (cond (decide ((Int.toNat g) = 1)) a1 (cond (decide ((Int.toNat g) = 2)) a2 (cond (decide ((Int.toNat g) = 3)) a3 (cond (decide ((Int.toNat g) = 4)) a4 (cond (decide ((Int.toNat g) = 5)) a5 (cond (decide ((Int.toNat g) = 6)) a6 a7)))))))
def t10 (g : Int) : Bool := cond (unk g) true ((rg g) && ((decide ((Int.toNat g) < 8)) && (decide ((Int.toNat g) < 8))))
def t11 (g : Int) (SB : Bool) : Bool := cond (!(inG g)) true (((rg g) && ((decide ((Int.toNat g) < 8)) && (cond SB (ok g) true))) && (ok g))
def t12 (g h : Int) (sb SB : Bool) (ai AI : Int) : Bool := !((cond (unk g) false (cond sb (litCmp .eql ai (litBin .andNot .u64 h 7)) false)) == (cond (!(inG g)) false (cond SB (litCmp .eql AI (litBin .sub .u64 h (litBin .rem .u64 h 8))) false)))
def mn (m : Int) : Int := cond (litCmp .lss 64 m) 64 m
def hcB (h n B : Int) : Bool := cond (litCmp .lss (litBin .sub .u64 h B) 8) true (litCmp .lss (litBin .sub .u64 B h) (IntKind.wrap .u64 n))
def stoS (g h n k A : Int) (S : Bool) : Bool := cond (!(inG g)) S (stF k g h n A S)
def stoa (g h n k a : Int) : Int := cond (cond (unk g) true (litCmp .lss n 1)) a (cond (cond (litCmp .neq k g) (hcB h n a) false) 0 a)
def stos (g h n k a : Int) (s : Bool) : Bool := cond (cond (unk g) true (litCmp .lss n 1)) s (cond (cond (litCmp .neq k g) (hcB h n a) false) false s)
def t20 (g : Int) (ask : Bool) : Bool := (cond (unk g) true (rg g)) && (cond (!(inG g)) true ask)
def bad (S s : Bool) (A a : Int) : Bool := cond (!(S == (!(!s)))) true (cond (!(!s)) (litCmp .neq A (cond (!s) 0 a)) false)
set_option maxRecDepth 100000 in
theorem goes0 (i A0 A1 A2 A3 A4 A5 A6 A7 a0 a1 a2 a3 a4 a5 a6 a7 : Int) (S0 S1 S2 S3 S4 S5 S6 S7 s0 s1 s2 s3 s4 s5 s6 s7 : Bool) (n : Nat) (F G H M : Nat → Int) : (viewT tm 8 ls (tm.fill ⟨[i, A0, A1, A2, A3, A4, A5, A6, A7, a0, a1, a2, a3, a4, a5, a6, a7], [S0, S1, S2, S3, S4, S5, S6, S7, s0, s1, s2, s3, s4, s5, s6, s7], [n, n], [F, G, H, M]⟩) (ev Try.prog cxs2 10 400 (.code (loopAt Try.prog 10 0)) (tm.fill ⟨[i, A0, A1, A2, A3, A4, A5, A6, A7, a0, a1, a2, a3, a4, a5, a6, a7], [S0, S1, S2, S3, S4, S5, S6, S7, s0, s1, s2, s3, s4, s5, s6, s7], [n, n], [F, G, H, M]⟩))).route [true, true, true, true, false] = some ([g0 i n, g1 i n, litCmp .eql (kd (F (Int.toNat i))) 0, t0 (G (Int.toNat i)), !(cond (bad (setS (G (Int.toNat i)) 0 S0) (sets (G (Int.toNat i)) 0 s0) (setA (G (Int.toNat i)) (H (Int.toNat i)) 0 A0) (seta (G (Int.toNat i)) (H (Int.toNat i)) 0 a0)) false (cond (bad (setS (G (Int.toNat i)) 1 S1) (sets (G (Int.toNat i)) 1 s1) (setA (G (Int.toNat i)) (H (Int.toNat i)) 1 A1) (seta (G (Int.toNat i)) (H (Int.toNat i)) 1 a1)) false (cond (bad (setS (G (Int.toNat i)) 2 S2) (sets (G (Int.toNat i)) 2 s2) (setA (G (Int.toNat i)) (H (Int.toNat i)) 2 A2) (seta (G (Int.toNat i)) (H (Int.toNat i)) 2 a2)) false (cond (bad (setS (G (Int.toNat i)) 3 S3) (sets (G (Int.toNat i)) 3 s3) (setA (G (Int.toNat i)) (H (Int.toNat i)) 3 A3) (seta (G (Int.toNat i)) (H (Int.toNat i)) 3 a3)) false (cond (bad (setS (G (Int.toNat i)) 4 S4) (sets (G (Int.toNat i)) 4 s4) (setA (G (Int.toNat i)) (H (Int.toNat i)) 4 A4) (seta (G (Int.toNat i)) (H (Int.toNat i)) 4 a4)) false (cond (bad (setS (G (Int.toNat i)) 5 S5) (sets (G (Int.toNat i)) 5 s5) (setA (G (Int.toNat i)) (H (Int.toNat i)) 5 A5) (seta (G (Int.toNat i)) (H (Int.toNat i)) 5 a5)) false (cond (bad (setS (G (Int.toNat i)) 6 S6) (sets (G (Int.toNat i)) 6 s6) (setA (G (Int.toNat i)) (H (Int.toNat i)) 6 A6) (seta (G (Int.toNat i)) (H (Int.toNat i)) 6 a6)) false (!(bad (setS (G (Int.toNat i)) 7 S7) (sets (G (Int.toNat i)) 7 s7) (setA (G (Int.toNat i)) (H (Int.toNat i)) 7 A7) (seta (G (Int.toNat i)) (H (Int.toNat i)) 7 a7))))))))))], (.normal, some ⟨[litBin .add .i64 i 1, (setA (G (Int.toNat i)) (H (Int.toNat i)) 0 A0), (setA (G (Int.toNat i)) (H (Int.toNat i)) 1 A1), (setA (G (Int.toNat i)) (H (Int.toNat i)) 2 A2), (setA (G (Int.toNat i)) (H (Int.toNat i)) 3 A3), (setA (G (Int.toNat i)) (H (Int.toNat i)) 4 A4), (setA (G (Int.toNat i)) (H (Int.toNat i)) 5 A5), (setA (G (Int.toNat i)) (H (Int.toNat i)) 6 A6), (setA (G (Int.toNat i)) (H (Int.toNat i)) 7 A7), (seta (G (Int.toNat i)) (H (Int.toNat i)) 0 a0), (seta (G (Int.toNat i)) (H (Int.toNat i)) 1 a1), (seta (G (Int.toNat i)) (H (Int.toNat i)) 2 a2), (seta (G (Int.toNat i)) (H (Int.toNat i)) 3 a3), (seta (G (Int.toNat i)) (H (Int.toNat i)) 4 a4), (seta (G (Int.toNat i)) (H (Int.toNat i)) 5 a5), (seta (G (Int.toNat i)) (H (Int.toNat i)) 6 a6), (seta (G (Int.toNat i)) (H (Int.toNat i)) 7 a7)], [(setS (G (Int.toNat i)) 0 S0), (setS (G (Int.toNat i)) 1 S1), (setS (G (Int.toNat i)) 2 S2), (setS (G (Int.toNat i)) 3 S3), (setS (G (Int.toNat i)) 4 S4), (setS (G (Int.toNat i)) 5 S5), (setS (G (Int.toNat i)) 6 S6), (setS (G (Int.toNat i)) 7 S7), (sets (G (Int.toNat i)) 0 s0), (sets (G (Int.toNat i)) 1 s1), (sets (G (Int.toNat i)) 2 s2), (sets (G (Int.toNat i)) 3 s3), (sets (G (Int.toNat i)) 4 s4), (sets (G (Int.toNat i)) 5 s5), (sets (G (Int.toNat i)) 6 s6), (sets (G (Int.toNat i)) 7 s7)], [n, n], [F, G, H, M]⟩)) := by kernel_rfl
end Go.Proofs.Ytgljicadcegilaa.AmoPlays
