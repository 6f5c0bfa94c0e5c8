/- The statement 'AmoOne': a reservation is taken once, by its hart, in its block; and who ends it. Conditions: none. -/
import Derived.Test.YtgljicadcegilaaWords
import Derived.Test.YtgljicadcegilaaCxa
namespace Go.Proofs.Ytgljicadcegilaa.AmoOne
open Go.RowKit Go.WideShapes Go.ChangeShapes Go.ChangeAt Ev
set_option linter.unusedVariables false
set_option linter.unusedSimpArgs false

def n0 (H K a b : Int) : Bool := (decide (0 ≤ H ∧ H < ((8 : Nat) : Int)))
def n1 (H K a b : Int) : Bool := (cond (cond (litCmp .lss H 0) true (litCmp .geq H 8)) false (decide ((Int.toNat H) = 0)))
def n2 (H K a b : Int) : Int := (cond (cond (litCmp .lss H 0) true (litCmp .geq H 8)) 0 (cond (decide ((Int.toNat H) = 0)) (litBin .andNot .u64 a 7) 0))
def n3 (H K a b : Int) : Bool := (cond (litCmp .neq 0 H) (cond (litCmp .lss (litBin .sub .u64 a (n2 H K a b)) 8) true (litCmp .lss (litBin .sub .u64 (n2 H K a b) a) 8)) false)
def n4 (H K a b : Int) : Bool := (cond (cond (litCmp .lss H 0) true (litCmp .geq H 8)) (n1 H K a b) (cond (n3 H K a b) false (n1 H K a b)))
def n5 (H K a b : Int) : Int := (cond (cond (litCmp .lss H 0) true (litCmp .geq H 8)) (n2 H K a b) (cond (n3 H K a b) 0 (n2 H K a b)))
def n6 (H K a b : Int) : Bool := (cond (litCmp .neq 0 K) (cond (litCmp .lss (litBin .sub .u64 b (n5 H K a b)) 8) true (litCmp .lss (litBin .sub .u64 (n5 H K a b) b) 1)) false)
def n7 (H K a b : Int) : Bool := (cond (litCmp .neq K H) (cond (cond (litCmp .lss K 0) true (litCmp .geq K 8)) (n4 H K a b) (cond (n6 H K a b) false (n4 H K a b))) (n4 H K a b))
def n8 (H K a b : Int) : Bool := (cond (cond (litCmp .lss H 0) true (litCmp .geq H 8)) false (decide ((Int.toNat H) = 1)))
def n9 (H K a b : Int) : Int := (cond (cond (litCmp .lss H 0) true (litCmp .geq H 8)) 0 (cond (decide ((Int.toNat H) = 1)) (litBin .andNot .u64 a 7) 0))
def n10 (H K a b : Int) : Bool := (cond (litCmp .neq 1 H) (cond (litCmp .lss (litBin .sub .u64 a (n9 H K a b)) 8) true (litCmp .lss (litBin .sub .u64 (n9 H K a b) a) 8)) false)
def n11 (H K a b : Int) : Bool := (cond (cond (litCmp .lss H 0) true (litCmp .geq H 8)) (n8 H K a b) (cond (n10 H K a b) false (n8 H K a b)))
def n12 (H K a b : Int) : Int := (cond (cond (litCmp .lss H 0) true (litCmp .geq H 8)) (n9 H K a b) (cond (n10 H K a b) 0 (n9 H K a b)))
def n13 (H K a b : Int) : Bool := (cond (litCmp .neq 1 K) (cond (litCmp .lss (litBin .sub .u64 b (n12 H K a b)) 8) true (litCmp .lss (litBin .sub .u64 (n12 H K a b) b) 1)) false)
def n14 (H K a b : Int) : Bool := (cond (litCmp .neq K H) (cond (cond (litCmp .lss K 0) true (litCmp .geq K 8)) (n11 H K a b) (cond (n13 H K a b) false (n11 H K a b))) (n11 H K a b))
def n15 (H K a b : Int) : Bool := (cond (cond (litCmp .lss H 0) true (litCmp .geq H 8)) false (decide ((Int.toNat H) = 2)))
def n16 (H K a b : Int) : Int := (cond (cond (litCmp .lss H 0) true (litCmp .geq H 8)) 0 (cond (decide ((Int.toNat H) = 2)) (litBin .andNot .u64 a 7) 0))
def n17 (H K a b : Int) : Bool := (cond (litCmp .neq 2 H) (cond (litCmp .lss (litBin .sub .u64 a (n16 H K a b)) 8) true (litCmp .lss (litBin .sub .u64 (n16 H K a b) a) 8)) false)
def n18 (H K a b : Int) : Bool := (cond (cond (litCmp .lss H 0) true (litCmp .geq H 8)) (n15 H K a b) (cond (n17 H K a b) false (n15 H K a b)))
def n19 (H K a b : Int) : Int := (cond (cond (litCmp .lss H 0) true (litCmp .geq H 8)) (n16 H K a b) (cond (n17 H K a b) 0 (n16 H K a b)))
def n20 (H K a b : Int) : Bool := (cond (litCmp .neq 2 K) (cond (litCmp .lss (litBin .sub .u64 b (n19 H K a b)) 8) true (litCmp .lss (litBin .sub .u64 (n19 H K a b) b) 1)) false)
def n21 (H K a b : Int) : Bool := (cond (litCmp .neq K H) (cond (cond (litCmp .lss K 0) true (litCmp .geq K 8)) (n18 H K a b) (cond (n20 H K a b) false (n18 H K a b))) (n18 H K a b))
def n22 (H K a b : Int) : Bool := (cond (cond (litCmp .lss H 0) true (litCmp .geq H 8)) false (decide ((Int.toNat H) = 3)))
def n23 (H K a b : Int) : Int := (cond (cond (litCmp .lss H 0) true (litCmp .geq H 8)) 0 (cond (decide ((Int.toNat H) = 3)) (litBin .andNot .u64 a 7) 0))
def n24 (H K a b : Int) : Bool := (cond (litCmp .neq 3 H) (cond (litCmp .lss (litBin .sub .u64 a (n23 H K a b)) 8) true (litCmp .lss (litBin .sub .u64 (n23 H K a b) a) 8)) false)
def n25 (H K a b : Int) : Bool := (cond (cond (litCmp .lss H 0) true (litCmp .geq H 8)) (n22 H K a b) (cond (n24 H K a b) false (n22 H K a b)))
def n26 (H K a b : Int) : Int := (cond (cond (litCmp .lss H 0) true (litCmp .geq H 8)) (n23 H K a b) (cond (n24 H K a b) 0 (n23 H K a b)))
def n27 (H K a b : Int) : Bool := (cond (litCmp .neq 3 K) (cond (litCmp .lss (litBin .sub .u64 b (n26 H K a b)) 8) true (litCmp .lss (litBin .sub .u64 (n26 H K a b) b) 1)) false)
def n28 (H K a b : Int) : Bool := (cond (litCmp .neq K H) (cond (cond (litCmp .lss K 0) true (litCmp .geq K 8)) (n25 H K a b) (cond (n27 H K a b) false (n25 H K a b))) (n25 H K a b))
def n29 (H K a b : Int) : Bool := (cond (cond (litCmp .lss H 0) true (litCmp .geq H 8)) false (decide ((Int.toNat H) = 4)))
def n30 (H K a b : Int) : Int := (cond (cond (litCmp .lss H 0) true (litCmp .geq H 8)) 0 (cond (decide ((Int.toNat H) = 4)) (litBin .andNot .u64 a 7) 0))
def n31 (H K a b : Int) : Bool := (cond (litCmp .neq 4 H) (cond (litCmp .lss (litBin .sub .u64 a (n30 H K a b)) 8) true (litCmp .lss (litBin .sub .u64 (n30 H K a b) a) 8)) false)
def n32 (H K a b : Int) : Bool := (cond (cond (litCmp .lss H 0) true (litCmp .geq H 8)) (n29 H K a b) (cond (n31 H K a b) false (n29 H K a b)))
def n33 (H K a b : Int) : Int := (cond (cond (litCmp .lss H 0) true (litCmp .geq H 8)) (n30 H K a b) (cond (n31 H K a b) 0 (n30 H K a b)))
def n34 (H K a b : Int) : Bool := (cond (litCmp .neq 4 K) (cond (litCmp .lss (litBin .sub .u64 b (n33 H K a b)) 8) true (litCmp .lss (litBin .sub .u64 (n33 H K a b) b) 1)) false)
def n35 (H K a b : Int) : Bool := (cond (litCmp .neq K H) (cond (cond (litCmp .lss K 0) true (litCmp .geq K 8)) (n32 H K a b) (cond (n34 H K a b) false (n32 H K a b))) (n32 H K a b))
def n36 (H K a b : Int) : Bool := (cond (cond (litCmp .lss H 0) true (litCmp .geq H 8)) false (decide ((Int.toNat H) = 5)))
def n37 (H K a b : Int) : Int := (cond (cond (litCmp .lss H 0) true (litCmp .geq H 8)) 0 (cond (decide ((Int.toNat H) = 5)) (litBin .andNot .u64 a 7) 0))
def n38 (H K a b : Int) : Bool := (cond (litCmp .neq 5 H) (cond (litCmp .lss (litBin .sub .u64 a (n37 H K a b)) 8) true (litCmp .lss (litBin .sub .u64 (n37 H K a b) a) 8)) false)
def n39 (H K a b : Int) : Bool := (cond (cond (litCmp .lss H 0) true (litCmp .geq H 8)) (n36 H K a b) (cond (n38 H K a b) false (n36 H K a b)))
def n40 (H K a b : Int) : Int := (cond (cond (litCmp .lss H 0) true (litCmp .geq H 8)) (n37 H K a b) (cond (n38 H K a b) 0 (n37 H K a b)))
def n41 (H K a b : Int) : Bool := (cond (litCmp .neq 5 K) (cond (litCmp .lss (litBin .sub .u64 b (n40 H K a b)) 8) true (litCmp .lss (litBin .sub .u64 (n40 H K a b) b) 1)) false)
def n42 (H K a b : Int) : Bool := (cond (litCmp .neq K H) (cond (cond (litCmp .lss K 0) true (litCmp .geq K 8)) (n39 H K a b) (cond (n41 H K a b) false (n39 H K a b))) (n39 H K a b))
def n43 (H K a b : Int) : Bool := (cond (cond (litCmp .lss H 0) true (litCmp .geq H 8)) false (decide ((Int.toNat H) = 6)))
def n44 (H K a b : Int) : Int := (cond (cond (litCmp .lss H 0) true (litCmp .geq H 8)) 0 (cond (decide ((Int.toNat H) = 6)) (litBin .andNot .u64 a 7) 0))
def n45 (H K a b : Int) : Bool := (cond (litCmp .neq 6 H) (cond (litCmp .lss (litBin .sub .u64 a (n44 H K a b)) 8) true (litCmp .lss (litBin .sub .u64 (n44 H K a b) a) 8)) false)
def n46 (H K a b : Int) : Bool := (cond (cond (litCmp .lss H 0) true (litCmp .geq H 8)) (n43 H K a b) (cond (n45 H K a b) false (n43 H K a b)))
def n47 (H K a b : Int) : Int := (cond (cond (litCmp .lss H 0) true (litCmp .geq H 8)) (n44 H K a b) (cond (n45 H K a b) 0 (n44 H K a b)))
def n48 (H K a b : Int) : Bool := (cond (litCmp .neq 6 K) (cond (litCmp .lss (litBin .sub .u64 b (n47 H K a b)) 8) true (litCmp .lss (litBin .sub .u64 (n47 H K a b) b) 1)) false)
def n49 (H K a b : Int) : Bool := (cond (litCmp .neq K H) (cond (cond (litCmp .lss K 0) true (litCmp .geq K 8)) (n46 H K a b) (cond (n48 H K a b) false (n46 H K a b))) (n46 H K a b))
def n50 (H K a b : Int) : Bool := (cond (cond (litCmp .lss H 0) true (litCmp .geq H 8)) false (decide ((Int.toNat H) = 7)))
def n51 (H K a b : Int) : Int := (cond (cond (litCmp .lss H 0) true (litCmp .geq H 8)) 0 (cond (decide ((Int.toNat H) = 7)) (litBin .andNot .u64 a 7) 0))
def n52 (H K a b : Int) : Bool := (cond (litCmp .neq 7 H) (cond (litCmp .lss (litBin .sub .u64 a (n51 H K a b)) 8) true (litCmp .lss (litBin .sub .u64 (n51 H K a b) a) 8)) false)
def n53 (H K a b : Int) : Bool := (cond (cond (litCmp .lss H 0) true (litCmp .geq H 8)) (n50 H K a b) (cond (n52 H K a b) false (n50 H K a b)))
def n54 (H K a b : Int) : Int := (cond (cond (litCmp .lss H 0) true (litCmp .geq H 8)) (n51 H K a b) (cond (n52 H K a b) 0 (n51 H K a b)))
def n55 (H K a b : Int) : Bool := (cond (litCmp .neq 7 K) (cond (litCmp .lss (litBin .sub .u64 b (n54 H K a b)) 8) true (litCmp .lss (litBin .sub .u64 (n54 H K a b) b) 1)) false)
def n56 (H K a b : Int) : Bool := (cond (litCmp .neq K H) (cond (cond (litCmp .lss K 0) true (litCmp .geq K 8)) (n53 H K a b) (cond (n55 H K a b) false (n53 H K a b))) (n53 H K a b))
def n57 (H K a b : Int) : Bool := (cond (decide ((Int.toNat H) = 0)) (n7 H K a b) (cond (decide ((Int.toNat H) = 1)) (n14 H K a b) (cond (decide ((Int.toNat H) = 2)) (n21 H K a b) (cond (decide ((Int.toNat H) = 3)) (n28 H K a b) (cond (decide ((Int.toNat H) = 4)) (n35 H K a b) (cond (decide ((Int.toNat H) = 5)) (n42 H K a b) (cond (decide ((Int.toNat H) = 6)) (n49 H K a b) (n56 H K a b))))))))
def n58 (H K a b : Int) : Bool := (!(n57 H K a b))
def n59 (H K a b : Int) : Bool := (cond (cond (litCmp .lss H 0) true (litCmp .geq H 8)) false (!(n58 H K a b)))
def n60 (H K a b : Int) : Bool := (litCmp .eql (litBin .quo .u64 a 8) (litBin .quo .u64 b 8))
def n61 (H K a b : Int) : Bool := (cond (litCmp .neq K H) (n60 H K a b) false)
def n62 (H K a b : Int) : Int := (cond (litCmp .neq K H) (cond (cond (litCmp .lss K 0) true (litCmp .geq K 8)) (n5 H K a b) (cond (n6 H K a b) 0 (n5 H K a b))) (n5 H K a b))
def n63 (H K a b : Int) : Int := (cond (litCmp .neq K H) (cond (cond (litCmp .lss K 0) true (litCmp .geq K 8)) (n12 H K a b) (cond (n13 H K a b) 0 (n12 H K a b))) (n12 H K a b))
def n64 (H K a b : Int) : Int := (cond (litCmp .neq K H) (cond (cond (litCmp .lss K 0) true (litCmp .geq K 8)) (n19 H K a b) (cond (n20 H K a b) 0 (n19 H K a b))) (n19 H K a b))
def n65 (H K a b : Int) : Int := (cond (litCmp .neq K H) (cond (cond (litCmp .lss K 0) true (litCmp .geq K 8)) (n26 H K a b) (cond (n27 H K a b) 0 (n26 H K a b))) (n26 H K a b))
def n66 (H K a b : Int) : Int := (cond (litCmp .neq K H) (cond (cond (litCmp .lss K 0) true (litCmp .geq K 8)) (n33 H K a b) (cond (n34 H K a b) 0 (n33 H K a b))) (n33 H K a b))
def n67 (H K a b : Int) : Int := (cond (litCmp .neq K H) (cond (cond (litCmp .lss K 0) true (litCmp .geq K 8)) (n40 H K a b) (cond (n41 H K a b) 0 (n40 H K a b))) (n40 H K a b))
def n68 (H K a b : Int) : Int := (cond (litCmp .neq K H) (cond (cond (litCmp .lss K 0) true (litCmp .geq K 8)) (n47 H K a b) (cond (n48 H K a b) 0 (n47 H K a b))) (n47 H K a b))
def n69 (H K a b : Int) : Int := (cond (litCmp .neq K H) (cond (cond (litCmp .lss K 0) true (litCmp .geq K 8)) (n54 H K a b) (cond (n55 H K a b) 0 (n54 H K a b))) (n54 H K a b))
def n70 (H K a b : Int) : Int := (cond (decide ((Int.toNat H) = 0)) (n62 H K a b) (cond (decide ((Int.toNat H) = 1)) (n63 H K a b) (cond (decide ((Int.toNat H) = 2)) (n64 H K a b) (cond (decide ((Int.toNat H) = 3)) (n65 H K a b) (cond (decide ((Int.toNat H) = 4)) (n66 H K a b) (cond (decide ((Int.toNat H) = 5)) (n67 H K a b) (cond (decide ((Int.toNat H) = 6)) (n68 H K a b) (n69 H K a b))))))))
def n71 (H K a b : Int) : Bool := (cond ((n59 H K a b) == (n61 H K a b)) true (cond (n59 H K a b) (litCmp .neq (cond (cond (litCmp .lss H 0) true (litCmp .geq H 8)) 0 (cond (n58 H K a b) 0 (n70 H K a b))) (litBin .mul .u64 (litBin .quo .u64 a 8) 8)) false))
def n72 (H K a b : Int) : Bool := (cond (cond (litCmp .lss H 0) true (litCmp .geq H 8)) true ((n0 H K a b) && ((decide ((Int.toNat H) < 8)) && (decide ((Int.toNat H) < 8)))))
def G (H K a b : Int) : Bool := ((cond (cond (litCmp .lss H 0) true (litCmp .geq H 8)) true ((n0 H K a b) && (decide ((Int.toNat H) < 8)))) && ((cond (cond (litCmp .lss H 0) true (litCmp .geq H 8)) true (n0 H K a b)) && ((cond (litCmp .neq K H) (cond (cond (litCmp .lss K 0) true (litCmp .geq K 8)) true (decide (0 ≤ K ∧ K < ((8 : Nat) : Int)))) true) && ((cond (cond (litCmp .lss H 0) true (litCmp .geq H 8)) true ((n0 H K a b) && ((decide ((Int.toNat H) < 8)) && (cond (n58 H K a b) true (decide ((Int.toNat H) < 8)))))) && (cond (n71 H K a b) true ((n72 H K a b) && (n72 H K a b)))))))
def n74 (H K a b : Int) : Bool := (cond (cond (litCmp .lss H 0) true (litCmp .geq H 8)) false (cond (n57 H K a b) (litCmp .eql (n70 H K a b) (litBin .andNot .u64 b 7)) false))
def n75 (H K a b : Int) : Bool := (!(cond (cond (litCmp .lss H 0) true (litCmp .geq H 8)) false (cond (cond (decide ((Int.toNat H) = 0)) (cond (cond (litCmp .lss H 0) true (litCmp .geq H 8)) (n7 H K a b) (cond (decide ((Int.toNat H) = 0)) false (n7 H K a b))) (cond (decide ((Int.toNat H) = 1)) (cond (cond (litCmp .lss H 0) true (litCmp .geq H 8)) (n14 H K a b) (cond (decide ((Int.toNat H) = 1)) false (n14 H K a b))) (cond (decide ((Int.toNat H) = 2)) (cond (cond (litCmp .lss H 0) true (litCmp .geq H 8)) (n21 H K a b) (cond (decide ((Int.toNat H) = 2)) false (n21 H K a b))) (cond (decide ((Int.toNat H) = 3)) (cond (cond (litCmp .lss H 0) true (litCmp .geq H 8)) (n28 H K a b) (cond (decide ((Int.toNat H) = 3)) false (n28 H K a b))) (cond (decide ((Int.toNat H) = 4)) (cond (cond (litCmp .lss H 0) true (litCmp .geq H 8)) (n35 H K a b) (cond (decide ((Int.toNat H) = 4)) false (n35 H K a b))) (cond (decide ((Int.toNat H) = 5)) (cond (cond (litCmp .lss H 0) true (litCmp .geq H 8)) (n42 H K a b) (cond (decide ((Int.toNat H) = 5)) false (n42 H K a b))) (cond (decide ((Int.toNat H) = 6)) (cond (cond (litCmp .lss H 0) true (litCmp .geq H 8)) (n49 H K a b) (cond (decide ((Int.toNat H) = 6)) false (n49 H K a b))) (cond (cond (litCmp .lss H 0) true (litCmp .geq H 8)) (n56 H K a b) (cond (decide ((Int.toNat H) = 7)) false (n56 H K a b)))))))))) (litCmp .eql (cond (decide ((Int.toNat H) = 0)) (cond (cond (litCmp .lss H 0) true (litCmp .geq H 8)) (n62 H K a b) (cond (decide ((Int.toNat H) = 0)) 0 (n62 H K a b))) (cond (decide ((Int.toNat H) = 1)) (cond (cond (litCmp .lss H 0) true (litCmp .geq H 8)) (n63 H K a b) (cond (decide ((Int.toNat H) = 1)) 0 (n63 H K a b))) (cond (decide ((Int.toNat H) = 2)) (cond (cond (litCmp .lss H 0) true (litCmp .geq H 8)) (n64 H K a b) (cond (decide ((Int.toNat H) = 2)) 0 (n64 H K a b))) (cond (decide ((Int.toNat H) = 3)) (cond (cond (litCmp .lss H 0) true (litCmp .geq H 8)) (n65 H K a b) (cond (decide ((Int.toNat H) = 3)) 0 (n65 H K a b))) (cond (decide ((Int.toNat H) = 4)) (cond (cond (litCmp .lss H 0) true (litCmp .geq H 8)) (n66 H K a b) (cond (decide ((Int.toNat H) = 4)) 0 (n66 H K a b))) (cond (decide ((Int.toNat H) = 5)) (cond (cond (litCmp .lss H 0) true (litCmp .geq H 8)) (n67 H K a b) (cond (decide ((Int.toNat H) = 5)) 0 (n67 H K a b))) (cond (decide ((Int.toNat H) = 6)) (cond (cond (litCmp .lss H 0) true (litCmp .geq H 8)) (n68 H K a b) (cond (decide ((Int.toNat H) = 6)) 0 (n68 H K a b))) (cond (cond (litCmp .lss H 0) true (litCmp .geq H 8)) (n69 H K a b) (cond (decide ((Int.toNat H) = 7)) 0 (n69 H K a b)))))))))) (litBin .andNot .u64 a 7)) false)))
def V (H K a b : Int) : Bool := (cond (n71 H K a b) false (cond (n60 H K a b) (cond ((n74 H K a b) == (!(n61 H K a b))) (n75 H K a b) false) (cond ((n74 H K a b) == false) (n75 H K a b) false)))
def Gs (a b : Int) : Bool := ((cond (!(cond (cond (litCmp .lss (litBin .sub .u64 b (litBin .andNot .u64 a 7)) 8) true (litCmp .lss (litBin .sub .u64 (litBin .andNot .u64 a 7) b) 1)) false true)) true true) && (cond (cond ((!(!(cond (cond (litCmp .lss (litBin .sub .u64 b (litBin .andNot .u64 a 7)) 8) true (litCmp .lss (litBin .sub .u64 (litBin .andNot .u64 a 7) b) 1)) false true))) == (litCmp .eql (litBin .quo .u64 a 8) (litBin .quo .u64 b 8))) true (cond (!(!(cond (cond (litCmp .lss (litBin .sub .u64 b (litBin .andNot .u64 a 7)) 8) true (litCmp .lss (litBin .sub .u64 (litBin .andNot .u64 a 7) b) 1)) false true))) (litCmp .neq (cond (!(cond (cond (litCmp .lss (litBin .sub .u64 b (litBin .andNot .u64 a 7)) 8) true (litCmp .lss (litBin .sub .u64 (litBin .andNot .u64 a 7) b) 1)) false true)) 0 (cond (cond (litCmp .lss (litBin .sub .u64 b (litBin .andNot .u64 a 7)) 8) true (litCmp .lss (litBin .sub .u64 (litBin .andNot .u64 a 7) b) 1)) 0 (litBin .andNot .u64 a 7))) (litBin .mul .u64 (litBin .quo .u64 a 8) 8)) false)) true true))
def Vs (a b : Int) : Bool := (cond (cond ((!(!(cond (cond (litCmp .lss (litBin .sub .u64 b (litBin .andNot .u64 a 7)) 8) true (litCmp .lss (litBin .sub .u64 (litBin .andNot .u64 a 7) b) 1)) false true))) == (litCmp .eql (litBin .quo .u64 a 8) (litBin .quo .u64 b 8))) true (cond (!(!(cond (cond (litCmp .lss (litBin .sub .u64 b (litBin .andNot .u64 a 7)) 8) true (litCmp .lss (litBin .sub .u64 (litBin .andNot .u64 a 7) b) 1)) false true))) (litCmp .neq (cond (!(cond (cond (litCmp .lss (litBin .sub .u64 b (litBin .andNot .u64 a 7)) 8) true (litCmp .lss (litBin .sub .u64 (litBin .andNot .u64 a 7) b) 1)) false true)) 0 (cond (cond (litCmp .lss (litBin .sub .u64 b (litBin .andNot .u64 a 7)) 8) true (litCmp .lss (litBin .sub .u64 (litBin .andNot .u64 a 7) b) 1)) 0 (litBin .andNot .u64 a 7))) (litBin .mul .u64 (litBin .quo .u64 a 8) 8)) false)) false (cond (litCmp .eql (litBin .quo .u64 a 8) (litBin .quo .u64 b 8)) (cond ((cond (cond (cond (litCmp .lss (litBin .sub .u64 b (litBin .andNot .u64 a 7)) 8) true (litCmp .lss (litBin .sub .u64 (litBin .andNot .u64 a 7) b) 1)) false true) (litCmp .eql (cond (cond (litCmp .lss (litBin .sub .u64 b (litBin .andNot .u64 a 7)) 8) true (litCmp .lss (litBin .sub .u64 (litBin .andNot .u64 a 7) b) 1)) 0 (litBin .andNot .u64 a 7)) (litBin .andNot .u64 b 7)) false) == (!(litCmp .eql (litBin .quo .u64 a 8) (litBin .quo .u64 b 8)))) true false) (cond ((cond (cond (cond (litCmp .lss (litBin .sub .u64 b (litBin .andNot .u64 a 7)) 8) true (litCmp .lss (litBin .sub .u64 (litBin .andNot .u64 a 7) b) 1)) false true) (litCmp .eql (cond (cond (litCmp .lss (litBin .sub .u64 b (litBin .andNot .u64 a 7)) 8) true (litCmp .lss (litBin .sub .u64 (litBin .andNot .u64 a 7) b) 1)) 0 (litBin .andNot .u64 a 7)) (litBin .andNot .u64 b 7)) false) == false) true false)))
def G0 (a b : Int) : Bool := (cond (cond (true == false) true (litCmp .neq (litBin .andNot .u64 a 7) (litBin .mul .u64 (litBin .quo .u64 a 8) 8))) true true)
def V0 (a b : Int) : Bool := (cond (cond (true == false) true (litCmp .neq (litBin .andNot .u64 a 7) (litBin .mul .u64 (litBin .quo .u64 a 8) 8))) false (cond (litCmp .eql (litBin .quo .u64 a 8) (litBin .quo .u64 b 8)) (cond ((litCmp .eql (litBin .andNot .u64 a 7) (litBin .andNot .u64 b 7)) == true) true false) (cond ((litCmp .eql (litBin .andNot .u64 a 7) (litBin .andNot .u64 b 7)) == false) true false)))
def rem8 (h : Int) : Int := litBin .rem .i64 (IntKind.wrap .i64 h) 8
set_option maxRecDepth 100000 in
theorem road (h k a b : Int) : ((call Try.prog cxa 400 8 [.agg [.int .u8 (.sym h), .int .u8 (.sym k)], .int .u64 (.sym a), .int .u64 (.sym b)] []).route [true]).map (fun p => (p.1, p.2.1)) = some ([G (rem8 h) (rem8 k) a b], .val (.bool (.sym (V (rem8 h) (rem8 k) a b)))) := by kernel_rfl

theorem andNot7 {a : Int} (ha : inU a) : litBin .andNot .u64 a 7 = a / 8 * 8 := by
  have h7 : inU 7 := by unfold inU; omega
  have ho : inU (a / 8 * 8) := by unfold inU at *; omega
  refine eq_of_bits (inU.andNot _ _) ho fun i => ?_
  rw [bit_andNot ha h7]
  obtain ⟨n, rfl, hn⟩ := ha.nat
  have e : ((n : Int) / 8 * 8) = ((n / 8 * 8 : Nat) : Int) := by omega
  rw [e, bit_nat, bit_nat]
  have h1 : n / 8 * 8 = (n >>> 3) <<< 3 := by rw [Nat.shiftLeft_eq, Nat.shiftRight_eq_div_pow]
  have h2 : bit 7 i = decide (i < 3) := by
    show Nat.testBit 7 i = _
    rw [show (7 : Nat) = 2 ^ 3 - 1 from rfl, Nat.testBit_two_pow_sub_one]
  rw [h1, h2, Nat.testBit_shiftLeft, Nat.testBit_shiftRight]
  by_cases h : i < 3
  · have : decide (3 ≤ i) = false := decide_eq_false (by omega)
    simp [h, this]
  · have : decide (3 ≤ i) = true := decide_eq_true (by omega)
    simp [h, this, show 3 + (i - 3) = i by omega]
theorem quo8 {a : Int} (ha : inU a) : litBin .quo .u64 a 8 = a / 8 := by
  unfold inU at ha
  show IntKind.u64.wrap (a.tdiv 8) = _
  rw [Int.tdiv_eq_ediv_of_nonneg ha.1, Ev.wrap64]
  omega
theorem hitE {a b : Int} (ha : inU a) (hb : inU b) : (cond (litCmp .lss (litBin .sub .u64 b (a / 8 * 8)) 8) true (litCmp .lss (litBin .sub .u64 (a / 8 * 8) b) 1)) = litCmp .eql (a / 8) (b / 8) := by
  unfold inU at ha hb
  rw [sub_eq, sub_eq]
  by_cases h : a / 8 = b / 8
  · have h1 : litCmp .lss ((b - a / 8 * 8) % 18446744073709551616) 8 = true := decide_eq_true (by omega)
    rw [h1, eql_of h]
    rfl
  · have h1 : litCmp .lss ((b - a / 8 * 8) % 18446744073709551616) 8 = false := decide_eq_false (by omega)
    have h2 : litCmp .lss ((a / 8 * 8 - b) % 18446744073709551616) 1 = false := decide_eq_false (by omega)
    have h3 : litCmp .eql (a / 8) (b / 8) = false := decide_eq_false h
    rw [h1, h2, h3]
    rfl
theorem sameE (a b : Int) : litCmp .eql (a / 8 * 8) (b / 8 * 8) = litCmp .eql (a / 8) (b / 8) := decide_eq_decide.2 (by omega)
theorem mul8 {a : Int} (ha : inU a) : litBin .mul .u64 (a / 8) 8 = a / 8 * 8 := by
  unfold inU at ha
  rw [mul_eq]
  omega
theorem small {a b : Int} (ha : inU a) (hb : inU b) : (Gs a b = true ∧ Vs a b = true) ∧ G0 a b = true ∧ V0 a b = true := by
  unfold Gs Vs G0 V0
  simp only [andNot7 ha, andNot7 hb, quo8 ha, quo8 hb, mul8 ha, hitE ha hb, sameE, neq_self]
  cases hE : litCmp .eql (a / 8) (b / 8) <;> simp [neq_self, sameE, hE]
theorem rem_in {h : Int} (wh : (Lit.int .u8 h).wf = true) : rem8 h = 0 ∨ rem8 h = 1 ∨ rem8 h = 2 ∨ rem8 h = 3 ∨ rem8 h = 4 ∨ rem8 h = 5 ∨ rem8 h = 6 ∨ rem8 h = 7 := by
  have h0 := wf8 wh
  have e : rem8 h = h % 8 := by
    show (IntKind.i64.wrap h).tmod 8 = _
    rw [wrapi, Int.tmod_eq_emod_of_nonneg (by omega)]
    omega
  omega
theorem at00 (a b : Int) : G 0 0 a b = G0 a b ∧ V 0 0 a b = V0 a b := ⟨by kernel_rfl, by kernel_rfl⟩
theorem at01 (a b : Int) : G 0 1 a b = Gs a b ∧ V 0 1 a b = Vs a b := ⟨by kernel_rfl, by kernel_rfl⟩
theorem at02 (a b : Int) : G 0 2 a b = Gs a b ∧ V 0 2 a b = Vs a b := ⟨by kernel_rfl, by kernel_rfl⟩
theorem at03 (a b : Int) : G 0 3 a b = Gs a b ∧ V 0 3 a b = Vs a b := ⟨by kernel_rfl, by kernel_rfl⟩
theorem at04 (a b : Int) : G 0 4 a b = Gs a b ∧ V 0 4 a b = Vs a b := ⟨by kernel_rfl, by kernel_rfl⟩
theorem at05 (a b : Int) : G 0 5 a b = Gs a b ∧ V 0 5 a b = Vs a b := ⟨by kernel_rfl, by kernel_rfl⟩
theorem at06 (a b : Int) : G 0 6 a b = Gs a b ∧ V 0 6 a b = Vs a b := ⟨by kernel_rfl, by kernel_rfl⟩
theorem at07 (a b : Int) : G 0 7 a b = Gs a b ∧ V 0 7 a b = Vs a b := ⟨by kernel_rfl, by kernel_rfl⟩
theorem at10 (a b : Int) : G 1 0 a b = Gs a b ∧ V 1 0 a b = Vs a b := ⟨by kernel_rfl, by kernel_rfl⟩
theorem at11 (a b : Int) : G 1 1 a b = G0 a b ∧ V 1 1 a b = V0 a b := ⟨by kernel_rfl, by kernel_rfl⟩
theorem at12 (a b : Int) : G 1 2 a b = Gs a b ∧ V 1 2 a b = Vs a b := ⟨by kernel_rfl, by kernel_rfl⟩
theorem at13 (a b : Int) : G 1 3 a b = Gs a b ∧ V 1 3 a b = Vs a b := ⟨by kernel_rfl, by kernel_rfl⟩
theorem at14 (a b : Int) : G 1 4 a b = Gs a b ∧ V 1 4 a b = Vs a b := ⟨by kernel_rfl, by kernel_rfl⟩
theorem at15 (a b : Int) : G 1 5 a b = Gs a b ∧ V 1 5 a b = Vs a b := ⟨by kernel_rfl, by kernel_rfl⟩
theorem at16 (a b : Int) : G 1 6 a b = Gs a b ∧ V 1 6 a b = Vs a b := ⟨by kernel_rfl, by kernel_rfl⟩
theorem at17 (a b : Int) : G 1 7 a b = Gs a b ∧ V 1 7 a b = Vs a b := ⟨by kernel_rfl, by kernel_rfl⟩
theorem at20 (a b : Int) : G 2 0 a b = Gs a b ∧ V 2 0 a b = Vs a b := ⟨by kernel_rfl, by kernel_rfl⟩
theorem at21 (a b : Int) : G 2 1 a b = Gs a b ∧ V 2 1 a b = Vs a b := ⟨by kernel_rfl, by kernel_rfl⟩
theorem at22 (a b : Int) : G 2 2 a b = G0 a b ∧ V 2 2 a b = V0 a b := ⟨by kernel_rfl, by kernel_rfl⟩
theorem at23 (a b : Int) : G 2 3 a b = Gs a b ∧ V 2 3 a b = Vs a b := ⟨by kernel_rfl, by kernel_rfl⟩
theorem at24 (a b : Int) : G 2 4 a b = Gs a b ∧ V 2 4 a b = Vs a b := ⟨by kernel_rfl, by kernel_rfl⟩
theorem at25 (a b : Int) : G 2 5 a b = Gs a b ∧ V 2 5 a b = Vs a b := ⟨by kernel_rfl, by kernel_rfl⟩
theorem at26 (a b : Int) : G 2 6 a b = Gs a b ∧ V 2 6 a b = Vs a b := ⟨by kernel_rfl, by kernel_rfl⟩
theorem at27 (a b : Int) : G 2 7 a b = Gs a b ∧ V 2 7 a b = Vs a b := ⟨by kernel_rfl, by kernel_rfl⟩
theorem at30 (a b : Int) : G 3 0 a b = Gs a b ∧ V 3 0 a b = Vs a b := ⟨by kernel_rfl, by kernel_rfl⟩
theorem at31 (a b : Int) : G 3 1 a b = Gs a b ∧ V 3 1 a b = Vs a b := ⟨by kernel_rfl, by kernel_rfl⟩
theorem at32 (a b : Int) : G 3 2 a b = Gs a b ∧ V 3 2 a b = Vs a b := ⟨by kernel_rfl, by kernel_rfl⟩
theorem at33 (a b : Int) : G 3 3 a b = G0 a b ∧ V 3 3 a b = V0 a b := ⟨by kernel_rfl, by kernel_rfl⟩
theorem at34 (a b : Int) : G 3 4 a b = Gs a b ∧ V 3 4 a b = Vs a b := ⟨by kernel_rfl, by kernel_rfl⟩
theorem at35 (a b : Int) : G 3 5 a b = Gs a b ∧ V 3 5 a b = Vs a b := ⟨by kernel_rfl, by kernel_rfl⟩
theorem at36 (a b : Int) : G 3 6 a b = Gs a b ∧ V 3 6 a b = Vs a b := ⟨by kernel_rfl, by kernel_rfl⟩
theorem at37 (a b : Int) : G 3 7 a b = Gs a b ∧ V 3 7 a b = Vs a b := ⟨by kernel_rfl, by kernel_rfl⟩
theorem at40 (a b : Int) : G 4 0 a b = Gs a b ∧ V 4 0 a b = Vs a b := ⟨by kernel_rfl, by kernel_rfl⟩
theorem at41 (a b : Int) : G 4 1 a b = Gs a b ∧ V 4 1 a b = Vs a b := ⟨by kernel_rfl, by kernel_rfl⟩
theorem at42 (a b : Int) : G 4 2 a b = Gs a b ∧ V 4 2 a b = Vs a b := ⟨by kernel_rfl, by kernel_rfl⟩
theorem at43 (a b : Int) : G 4 3 a b = Gs a b ∧ V 4 3 a b = Vs a b := ⟨by kernel_rfl, by kernel_rfl⟩
theorem at44 (a b : Int) : G 4 4 a b = G0 a b ∧ V 4 4 a b = V0 a b := ⟨by kernel_rfl, by kernel_rfl⟩
theorem at45 (a b : Int) : G 4 5 a b = Gs a b ∧ V 4 5 a b = Vs a b := ⟨by kernel_rfl, by kernel_rfl⟩
theorem at46 (a b : Int) : G 4 6 a b = Gs a b ∧ V 4 6 a b = Vs a b := ⟨by kernel_rfl, by kernel_rfl⟩
theorem at47 (a b : Int) : G 4 7 a b = Gs a b ∧ V 4 7 a b = Vs a b := ⟨by kernel_rfl, by kernel_rfl⟩
theorem at50 (a b : Int) : G 5 0 a b = Gs a b ∧ V 5 0 a b = Vs a b := ⟨by kernel_rfl, by kernel_rfl⟩
theorem at51 (a b : Int) : G 5 1 a b = Gs a b ∧ V 5 1 a b = Vs a b := ⟨by kernel_rfl, by kernel_rfl⟩
theorem at52 (a b : Int) : G 5 2 a b = Gs a b ∧ V 5 2 a b = Vs a b := ⟨by kernel_rfl, by kernel_rfl⟩
theorem at53 (a b : Int) : G 5 3 a b = Gs a b ∧ V 5 3 a b = Vs a b := ⟨by kernel_rfl, by kernel_rfl⟩
theorem at54 (a b : Int) : G 5 4 a b = Gs a b ∧ V 5 4 a b = Vs a b := ⟨by kernel_rfl, by kernel_rfl⟩
theorem at55 (a b : Int) : G 5 5 a b = G0 a b ∧ V 5 5 a b = V0 a b := ⟨by kernel_rfl, by kernel_rfl⟩
theorem at56 (a b : Int) : G 5 6 a b = Gs a b ∧ V 5 6 a b = Vs a b := ⟨by kernel_rfl, by kernel_rfl⟩
theorem at57 (a b : Int) : G 5 7 a b = Gs a b ∧ V 5 7 a b = Vs a b := ⟨by kernel_rfl, by kernel_rfl⟩
theorem at60 (a b : Int) : G 6 0 a b = Gs a b ∧ V 6 0 a b = Vs a b := ⟨by kernel_rfl, by kernel_rfl⟩
theorem at61 (a b : Int) : G 6 1 a b = Gs a b ∧ V 6 1 a b = Vs a b := ⟨by kernel_rfl, by kernel_rfl⟩
theorem at62 (a b : Int) : G 6 2 a b = Gs a b ∧ V 6 2 a b = Vs a b := ⟨by kernel_rfl, by kernel_rfl⟩
theorem at63 (a b : Int) : G 6 3 a b = Gs a b ∧ V 6 3 a b = Vs a b := ⟨by kernel_rfl, by kernel_rfl⟩
theorem at64 (a b : Int) : G 6 4 a b = Gs a b ∧ V 6 4 a b = Vs a b := ⟨by kernel_rfl, by kernel_rfl⟩
theorem at65 (a b : Int) : G 6 5 a b = Gs a b ∧ V 6 5 a b = Vs a b := ⟨by kernel_rfl, by kernel_rfl⟩
theorem at66 (a b : Int) : G 6 6 a b = G0 a b ∧ V 6 6 a b = V0 a b := ⟨by kernel_rfl, by kernel_rfl⟩
theorem at67 (a b : Int) : G 6 7 a b = Gs a b ∧ V 6 7 a b = Vs a b := ⟨by kernel_rfl, by kernel_rfl⟩
theorem at70 (a b : Int) : G 7 0 a b = Gs a b ∧ V 7 0 a b = Vs a b := ⟨by kernel_rfl, by kernel_rfl⟩
theorem at71 (a b : Int) : G 7 1 a b = Gs a b ∧ V 7 1 a b = Vs a b := ⟨by kernel_rfl, by kernel_rfl⟩
theorem at72 (a b : Int) : G 7 2 a b = Gs a b ∧ V 7 2 a b = Vs a b := ⟨by kernel_rfl, by kernel_rfl⟩
theorem at73 (a b : Int) : G 7 3 a b = Gs a b ∧ V 7 3 a b = Vs a b := ⟨by kernel_rfl, by kernel_rfl⟩
theorem at74 (a b : Int) : G 7 4 a b = Gs a b ∧ V 7 4 a b = Vs a b := ⟨by kernel_rfl, by kernel_rfl⟩
theorem at75 (a b : Int) : G 7 5 a b = Gs a b ∧ V 7 5 a b = Vs a b := ⟨by kernel_rfl, by kernel_rfl⟩
theorem at76 (a b : Int) : G 7 6 a b = Gs a b ∧ V 7 6 a b = Vs a b := ⟨by kernel_rfl, by kernel_rfl⟩
theorem at77 (a b : Int) : G 7 7 a b = G0 a b ∧ V 7 7 a b = V0 a b := ⟨by kernel_rfl, by kernel_rfl⟩
theorem law {h k a b : Int} (wh : (Lit.int .u8 h).wf = true) (wk : (Lit.int .u8 k).wf = true) (wa : (Lit.int .u64 a).wf = true) (wb : (Lit.int .u64 b).wf = true) : G (rem8 h) (rem8 k) a b = true ∧ V (rem8 h) (rem8 k) a b = true := by
  obtain ⟨⟨s1, s2⟩, s3, s4⟩ := small (inU_wf wa) (inU_wf wb)
  have eh := rem_in wh
  have ek := rem_in wk
  generalize rem8 h = H at *
  generalize rem8 k = K at *
  rcases eh with e | e | e | e | e | e | e | e <;> rcases ek with f | f | f | f | f | f | f | f <;> subst e <;> subst f
  · exact ⟨(at00 a b).1.trans s3, (at00 a b).2.trans s4⟩
  · exact ⟨(at01 a b).1.trans s1, (at01 a b).2.trans s2⟩
  · exact ⟨(at02 a b).1.trans s1, (at02 a b).2.trans s2⟩
  · exact ⟨(at03 a b).1.trans s1, (at03 a b).2.trans s2⟩
  · exact ⟨(at04 a b).1.trans s1, (at04 a b).2.trans s2⟩
  · exact ⟨(at05 a b).1.trans s1, (at05 a b).2.trans s2⟩
  · exact ⟨(at06 a b).1.trans s1, (at06 a b).2.trans s2⟩
  · exact ⟨(at07 a b).1.trans s1, (at07 a b).2.trans s2⟩
  · exact ⟨(at10 a b).1.trans s1, (at10 a b).2.trans s2⟩
  · exact ⟨(at11 a b).1.trans s3, (at11 a b).2.trans s4⟩
  · exact ⟨(at12 a b).1.trans s1, (at12 a b).2.trans s2⟩
  · exact ⟨(at13 a b).1.trans s1, (at13 a b).2.trans s2⟩
  · exact ⟨(at14 a b).1.trans s1, (at14 a b).2.trans s2⟩
  · exact ⟨(at15 a b).1.trans s1, (at15 a b).2.trans s2⟩
  · exact ⟨(at16 a b).1.trans s1, (at16 a b).2.trans s2⟩
  · exact ⟨(at17 a b).1.trans s1, (at17 a b).2.trans s2⟩
  · exact ⟨(at20 a b).1.trans s1, (at20 a b).2.trans s2⟩
  · exact ⟨(at21 a b).1.trans s1, (at21 a b).2.trans s2⟩
  · exact ⟨(at22 a b).1.trans s3, (at22 a b).2.trans s4⟩
  · exact ⟨(at23 a b).1.trans s1, (at23 a b).2.trans s2⟩
  · exact ⟨(at24 a b).1.trans s1, (at24 a b).2.trans s2⟩
  · exact ⟨(at25 a b).1.trans s1, (at25 a b).2.trans s2⟩
  · exact ⟨(at26 a b).1.trans s1, (at26 a b).2.trans s2⟩
  · exact ⟨(at27 a b).1.trans s1, (at27 a b).2.trans s2⟩
  · exact ⟨(at30 a b).1.trans s1, (at30 a b).2.trans s2⟩
  · exact ⟨(at31 a b).1.trans s1, (at31 a b).2.trans s2⟩
  · exact ⟨(at32 a b).1.trans s1, (at32 a b).2.trans s2⟩
  · exact ⟨(at33 a b).1.trans s3, (at33 a b).2.trans s4⟩
  · exact ⟨(at34 a b).1.trans s1, (at34 a b).2.trans s2⟩
  · exact ⟨(at35 a b).1.trans s1, (at35 a b).2.trans s2⟩
  · exact ⟨(at36 a b).1.trans s1, (at36 a b).2.trans s2⟩
  · exact ⟨(at37 a b).1.trans s1, (at37 a b).2.trans s2⟩
  · exact ⟨(at40 a b).1.trans s1, (at40 a b).2.trans s2⟩
  · exact ⟨(at41 a b).1.trans s1, (at41 a b).2.trans s2⟩
  · exact ⟨(at42 a b).1.trans s1, (at42 a b).2.trans s2⟩
  · exact ⟨(at43 a b).1.trans s1, (at43 a b).2.trans s2⟩
  · exact ⟨(at44 a b).1.trans s3, (at44 a b).2.trans s4⟩
  · exact ⟨(at45 a b).1.trans s1, (at45 a b).2.trans s2⟩
  · exact ⟨(at46 a b).1.trans s1, (at46 a b).2.trans s2⟩
  · exact ⟨(at47 a b).1.trans s1, (at47 a b).2.trans s2⟩
  · exact ⟨(at50 a b).1.trans s1, (at50 a b).2.trans s2⟩
  · exact ⟨(at51 a b).1.trans s1, (at51 a b).2.trans s2⟩
  · exact ⟨(at52 a b).1.trans s1, (at52 a b).2.trans s2⟩
  · exact ⟨(at53 a b).1.trans s1, (at53 a b).2.trans s2⟩
  · exact ⟨(at54 a b).1.trans s1, (at54 a b).2.trans s2⟩
  · exact ⟨(at55 a b).1.trans s3, (at55 a b).2.trans s4⟩
  · exact ⟨(at56 a b).1.trans s1, (at56 a b).2.trans s2⟩
  · exact ⟨(at57 a b).1.trans s1, (at57 a b).2.trans s2⟩
  · exact ⟨(at60 a b).1.trans s1, (at60 a b).2.trans s2⟩
  · exact ⟨(at61 a b).1.trans s1, (at61 a b).2.trans s2⟩
  · exact ⟨(at62 a b).1.trans s1, (at62 a b).2.trans s2⟩
  · exact ⟨(at63 a b).1.trans s1, (at63 a b).2.trans s2⟩
  · exact ⟨(at64 a b).1.trans s1, (at64 a b).2.trans s2⟩
  · exact ⟨(at65 a b).1.trans s1, (at65 a b).2.trans s2⟩
  · exact ⟨(at66 a b).1.trans s3, (at66 a b).2.trans s4⟩
  · exact ⟨(at67 a b).1.trans s1, (at67 a b).2.trans s2⟩
  · exact ⟨(at70 a b).1.trans s1, (at70 a b).2.trans s2⟩
  · exact ⟨(at71 a b).1.trans s1, (at71 a b).2.trans s2⟩
  · exact ⟨(at72 a b).1.trans s1, (at72 a b).2.trans s2⟩
  · exact ⟨(at73 a b).1.trans s1, (at73 a b).2.trans s2⟩
  · exact ⟨(at74 a b).1.trans s1, (at74 a b).2.trans s2⟩
  · exact ⟨(at75 a b).1.trans s1, (at75 a b).2.trans s2⟩
  · exact ⟨(at76 a b).1.trans s1, (at76 a b).2.trans s2⟩
  · exact ⟨(at77 a b).1.trans s3, (at77 a b).2.trans s4⟩

theorem sums (h k a b : Int) (wh : (Lit.int .u8 h).wf = true) (wk : (Lit.int .u8 k).wf = true) (wa : (Lit.int .u64 a).wf = true) (wb : (Lit.int .u64 b).wf = true) :
    ∃ c : Bool, (call Try.prog cxa 400 8 [.agg [.int .u8 (.sym h), .int .u8 (.sym k)], .int .u64 (.sym a), .int .u64 (.sym b)] []).pick.map (·.1) = some (.val (.bool (.sym c))) ∧ c = true :=
  ⟨_, route_pick1 (road h k a b) (by rw [(law wh wk wa wb).1]), (law wh wk wa wb).2⟩

set_option maxRecDepth 100000 in
set_option maxHeartbeats 4000000 in
theorem run : ∀ vs, ArgsOk [.agg [.int .u8, .int .u8], .one (.int .u64), .one (.int .u64)] vs → ∀ w, Calls Try.prog 8 vs.toArray w fun e w' => e = .returned (.bool true) ∧ Below w.heap.size w w' := by
  intro vs h w
  obtain ⟨_, _, rfl, ⟨_, rfl, _, _, rfl, ⟨h, rfl, wh⟩, _, _, rfl, ⟨k, rfl, wk⟩, rfl⟩, _, _, rfl, ⟨a, rfl, wa⟩, _, _, rfl, ⟨b, rfl, wb⟩, rfl⟩ := h
  obtain ⟨c, k1, k2⟩ := sums h k a b wh wk wa wb
  have k3 := (rfl : List.map absV [.agg [.int .u8 h, .int .u8 k].toArray, .int .u64 a, .int .u64 b] = [.agg [.int .u8 (.sym h), .int .u8 (.sym k)], .int .u64 (.sym a), .int .u64 (.sym b)])
  have k4 := law_true2 cxa_ok k3 k1 k2 w
  exact k4

set_option maxRecDepth 100000 in
theorem lifted (os : Os) (started : os.Started) (H : Type) (enc : TypeId × Value → H) :
    ReturnsInHanded {} Try.checked os 8 .any (Rows.amoOneSpec.pre6 enc Try.prog Try.f8 Rows.amoOneRow.domain false) (Rows.amoOneSpec.post enc Try.prog Try.f8 false true false false) := by
  refine returnsInHanded_of_change (C := Try.checked) own started (by kernel_rfl) Try.func8
    (ChangeSpec.witness6 (enc := enc) (C := Try.checked) false ⟨#[], #[.agg #[.int .u8 0, .int .u8 0], .int .u64 0, .int .u64 0], []⟩ 8 (by kernel_rfl) (by kernel_rfl) (by kernel_rfl) (by kernel_rfl)) ?_
  intro W base args ds gs before hval hW _ _
  exact lifted_plain (P := Try.prog) (f := 8) (fn := Try.f8) (s := Rows.amoOneSpec) (tb := 4) rfl
    (fun ds h => by
      match ds, h with
      | [d1, d2, d3], _ => rfl)
    (by kernel_rfl) rfl (by kernel_rfl) run W base args ds gs before hval hW

theorem over : Rows.amoOneRow.holds Try.pinned (OpenSpec.ofChange Rows.amoOneSpec) :=
  OpenClaim.holds_of_wide 8 Try.f8 rfl rfl rfl rfl rfl rfl rfl ⟨rfl, rfl, rfl, rfl, rfl⟩ rfl rfl rfl rfl rfl (by kernel_rfl) Try.func8 (by kernel_rfl)
    (of_decide_eq_true (by kernel_rfl)) (by unfold Func.isWrapper; first | (rw [if_pos (by decide +kernel)]; kernel_rfl) | (rw [if_neg (by decide +kernel)]; exact ⟨rfl, rfl⟩))
    (fun os started H enc _ => lifted os started H enc)

/-- The statement. -/
theorem proved : Rows.AmoOneSaid :=
  over
#print axioms proved
end Go.Proofs.Ytgljicadcegilaa.AmoOne
