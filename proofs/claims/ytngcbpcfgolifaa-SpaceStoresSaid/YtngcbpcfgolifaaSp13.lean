/- What the statements on spaces share: the document's example, the loop that makes memory, the real address of some bytes, and addresses of one page. Conditions: none. -/
import Derived.Test.YtngcbpcfgolifaaShown
namespace Go.Proofs.Ytngcbpcfgolifaa.Ev
open Go.RowKit
set_option linter.unusedVariables false
set_option linter.unusedSimpArgs false
namespace Shown72
def Z0 : Nat → Int := fun _ => 0
def N0 : Nat := Int.toNat 4096
theorem isW0 (F : Nat → Int) (N : Nat) (st pr k va : Int) : isW F N 0 st pr k va = false := outW_np np0
theorem toW0 (F : Nat → Int) (N : Nat) (st pr k va : Int) : toW F N 0 st pr k va = va := by
  unfold toW
  rw [isW0, np0]
  rfl
theorem mz : MemOk N0 Z0 := MemOk.zero (by decide)
theorem aW {F : Nat → Int} (h : MemOk N0 F) (va : Int) (hv : inU va) : askW N0 N0 N0 F 0 0 va = true := askW_of h inU0 inU0 hv
theorem aM {F : Nat → Int} (h : MemOk N0 F) (x n : Int) (hx : inU x) (hn : inI n) : askM N0 N0 N0 F x n = true := askM_of h hx hn
theorem aP (x n : Int) (hx : inU x) (hn : inI n) : askP N0 N0 x n = true := yes_of ⟨rfl, by decide, hx, hn⟩
theorem iU (x : Nat) (h : x < 18446744073709551616) : inU (x : Int) := inU_nat h
theorem iI1 : inI 1 := by unfold inI; omega
theorem ok1 : okS N0 2147483649 1 = true ∧ okS N0 2147483650 1 = true ∧ okS N0 2147483651 1 = true ∧ okS N0 2147483652 1 = true ∧ okS N0 2147483648 8 = true := by decide +kernel

def t0 : Bool := (decide (0 ≤ 4096 ∧ 4096 < ((16777216 : Nat) : Int)))
noncomputable def t1 : Bool := ((askW N0 N0 N0 Z0 0 0 2147483649) && (cond (isW Z0 N0 0 0 1 2 2147483649) true (askP N0 N0 (toW Z0 N0 0 0 1 2 2147483649) 1)))
def t2 : Bool := (cond (isW Z0 N0 0 0 1 2 2147483649) (isW Z0 N0 0 0 1 2 2147483649) (cond (!(okS N0 (toW Z0 N0 0 0 1 2 2147483649) 1)) true (isW Z0 N0 0 0 1 2 2147483649)))
noncomputable def t3 : Bool := ((askW N0 N0 N0 Z0 0 0 2147483650) && (cond (isW Z0 N0 0 0 1 2 2147483650) true (askP N0 N0 (toW Z0 N0 0 0 1 2 2147483650) 1)))
def t4 : Bool := (cond (isW Z0 N0 0 0 1 2 2147483650) (isW Z0 N0 0 0 1 2 2147483650) (cond (!(okS N0 (toW Z0 N0 0 0 1 2 2147483650) 1)) true (isW Z0 N0 0 0 1 2 2147483650)))
noncomputable def t5 : Bool := ((askW N0 N0 N0 Z0 0 0 2147483651) && (cond (isW Z0 N0 0 0 1 2 2147483651) true (askP N0 N0 (toW Z0 N0 0 0 1 2 2147483651) 1)))
def t6 : Bool := (cond (isW Z0 N0 0 0 1 2 2147483651) (isW Z0 N0 0 0 1 2 2147483651) (cond (!(okS N0 (toW Z0 N0 0 0 1 2 2147483651) 1)) true (isW Z0 N0 0 0 1 2 2147483651)))
noncomputable def t7 : Bool := ((askW N0 N0 N0 Z0 0 0 2147483652) && (cond (isW Z0 N0 0 0 1 2 2147483652) true (askP N0 N0 (toW Z0 N0 0 0 1 2 2147483652) 1)))
def t8 : Bool := (cond (isW Z0 N0 0 0 1 2 2147483652) (isW Z0 N0 0 0 1 2 2147483652) (cond (!(okS N0 (toW Z0 N0 0 0 1 2 2147483652) 1)) true (isW Z0 N0 0 0 1 2 2147483652)))
noncomputable def t9 : Bool := ((askM N0 N0 N0 Z0 (litBin .add .u64 (cond (isW Z0 N0 0 0 1 2 2147483649) 0 (cond (!(okS N0 (toW Z0 N0 0 0 1 2 2147483649) 1)) 0 (toW Z0 N0 0 0 1 2 2147483649))) 0) 1 && yes (inU 7)) && ((askM N0 N0 N0 (putF Z0 N0 (litBin .add .u64 (cond (isW Z0 N0 0 0 1 2 2147483649) 0 (cond (!(okS N0 (toW Z0 N0 0 0 1 2 2147483649) 1)) 0 (toW Z0 N0 0 0 1 2 2147483649))) 0) 1 7) (litBin .add .u64 (cond (isW Z0 N0 0 0 1 2 2147483650) 0 (cond (!(okS N0 (toW Z0 N0 0 0 1 2 2147483650) 1)) 0 (toW Z0 N0 0 0 1 2 2147483650))) 0) 1 && yes (inU 0)) && ((askM N0 N0 N0 (putF (putF Z0 N0 (litBin .add .u64 (cond (isW Z0 N0 0 0 1 2 2147483649) 0 (cond (!(okS N0 (toW Z0 N0 0 0 1 2 2147483649) 1)) 0 (toW Z0 N0 0 0 1 2 2147483649))) 0) 1 7) N0 (litBin .add .u64 (cond (isW Z0 N0 0 0 1 2 2147483650) 0 (cond (!(okS N0 (toW Z0 N0 0 0 1 2 2147483650) 1)) 0 (toW Z0 N0 0 0 1 2 2147483650))) 0) 1 0) (litBin .add .u64 (cond (isW Z0 N0 0 0 1 2 2147483651) 0 (cond (!(okS N0 (toW Z0 N0 0 0 1 2 2147483651) 1)) 0 (toW Z0 N0 0 0 1 2 2147483651))) 0) 1 && yes (inU 0)) && (askM N0 N0 N0 (putF (putF (putF Z0 N0 (litBin .add .u64 (cond (isW Z0 N0 0 0 1 2 2147483649) 0 (cond (!(okS N0 (toW Z0 N0 0 0 1 2 2147483649) 1)) 0 (toW Z0 N0 0 0 1 2 2147483649))) 0) 1 7) N0 (litBin .add .u64 (cond (isW Z0 N0 0 0 1 2 2147483650) 0 (cond (!(okS N0 (toW Z0 N0 0 0 1 2 2147483650) 1)) 0 (toW Z0 N0 0 0 1 2 2147483650))) 0) 1 0) N0 (litBin .add .u64 (cond (isW Z0 N0 0 0 1 2 2147483651) 0 (cond (!(okS N0 (toW Z0 N0 0 0 1 2 2147483651) 1)) 0 (toW Z0 N0 0 0 1 2 2147483651))) 0) 1 0) (litBin .add .u64 (cond (isW Z0 N0 0 0 1 2 2147483652) 0 (cond (!(okS N0 (toW Z0 N0 0 0 1 2 2147483652) 1)) 0 (toW Z0 N0 0 0 1 2 2147483652))) 0) 1 && yes (inU 0)))))
noncomputable def t10 : Bool := ((askW N0 N0 N0 (putF (putF (putF (putF Z0 N0 (litBin .add .u64 (cond (isW Z0 N0 0 0 1 2 2147483649) 0 (cond (!(okS N0 (toW Z0 N0 0 0 1 2 2147483649) 1)) 0 (toW Z0 N0 0 0 1 2 2147483649))) 0) 1 7) N0 (litBin .add .u64 (cond (isW Z0 N0 0 0 1 2 2147483650) 0 (cond (!(okS N0 (toW Z0 N0 0 0 1 2 2147483650) 1)) 0 (toW Z0 N0 0 0 1 2 2147483650))) 0) 1 0) N0 (litBin .add .u64 (cond (isW Z0 N0 0 0 1 2 2147483651) 0 (cond (!(okS N0 (toW Z0 N0 0 0 1 2 2147483651) 1)) 0 (toW Z0 N0 0 0 1 2 2147483651))) 0) 1 0) N0 (litBin .add .u64 (cond (isW Z0 N0 0 0 1 2 2147483652) 0 (cond (!(okS N0 (toW Z0 N0 0 0 1 2 2147483652) 1)) 0 (toW Z0 N0 0 0 1 2 2147483652))) 0) 1 0) 0 0 2147483648) && (cond (isW (putF (putF (putF (putF Z0 N0 (litBin .add .u64 (cond (isW Z0 N0 0 0 1 2 2147483649) 0 (cond (!(okS N0 (toW Z0 N0 0 0 1 2 2147483649) 1)) 0 (toW Z0 N0 0 0 1 2 2147483649))) 0) 1 7) N0 (litBin .add .u64 (cond (isW Z0 N0 0 0 1 2 2147483650) 0 (cond (!(okS N0 (toW Z0 N0 0 0 1 2 2147483650) 1)) 0 (toW Z0 N0 0 0 1 2 2147483650))) 0) 1 0) N0 (litBin .add .u64 (cond (isW Z0 N0 0 0 1 2 2147483651) 0 (cond (!(okS N0 (toW Z0 N0 0 0 1 2 2147483651) 1)) 0 (toW Z0 N0 0 0 1 2 2147483651))) 0) 1 0) N0 (litBin .add .u64 (cond (isW Z0 N0 0 0 1 2 2147483652) 0 (cond (!(okS N0 (toW Z0 N0 0 0 1 2 2147483652) 1)) 0 (toW Z0 N0 0 0 1 2 2147483652))) 0) 1 0) N0 0 0 1 1 2147483648) true (askP N0 N0 (toW (putF (putF (putF (putF Z0 N0 (litBin .add .u64 (cond (isW Z0 N0 0 0 1 2 2147483649) 0 (cond (!(okS N0 (toW Z0 N0 0 0 1 2 2147483649) 1)) 0 (toW Z0 N0 0 0 1 2 2147483649))) 0) 1 7) N0 (litBin .add .u64 (cond (isW Z0 N0 0 0 1 2 2147483650) 0 (cond (!(okS N0 (toW Z0 N0 0 0 1 2 2147483650) 1)) 0 (toW Z0 N0 0 0 1 2 2147483650))) 0) 1 0) N0 (litBin .add .u64 (cond (isW Z0 N0 0 0 1 2 2147483651) 0 (cond (!(okS N0 (toW Z0 N0 0 0 1 2 2147483651) 1)) 0 (toW Z0 N0 0 0 1 2 2147483651))) 0) 1 0) N0 (litBin .add .u64 (cond (isW Z0 N0 0 0 1 2 2147483652) 0 (cond (!(okS N0 (toW Z0 N0 0 0 1 2 2147483652) 1)) 0 (toW Z0 N0 0 0 1 2 2147483652))) 0) 1 0) N0 0 0 1 1 2147483648) 8)))
def t11 : Bool := (cond (isW (putF (putF (putF (putF Z0 N0 (litBin .add .u64 (cond (isW Z0 N0 0 0 1 2 2147483649) 0 (cond (!(okS N0 (toW Z0 N0 0 0 1 2 2147483649) 1)) 0 (toW Z0 N0 0 0 1 2 2147483649))) 0) 1 7) N0 (litBin .add .u64 (cond (isW Z0 N0 0 0 1 2 2147483650) 0 (cond (!(okS N0 (toW Z0 N0 0 0 1 2 2147483650) 1)) 0 (toW Z0 N0 0 0 1 2 2147483650))) 0) 1 0) N0 (litBin .add .u64 (cond (isW Z0 N0 0 0 1 2 2147483651) 0 (cond (!(okS N0 (toW Z0 N0 0 0 1 2 2147483651) 1)) 0 (toW Z0 N0 0 0 1 2 2147483651))) 0) 1 0) N0 (litBin .add .u64 (cond (isW Z0 N0 0 0 1 2 2147483652) 0 (cond (!(okS N0 (toW Z0 N0 0 0 1 2 2147483652) 1)) 0 (toW Z0 N0 0 0 1 2 2147483652))) 0) 1 0) N0 0 0 1 1 2147483648) (isW (putF (putF (putF (putF Z0 N0 (litBin .add .u64 (cond (isW Z0 N0 0 0 1 2 2147483649) 0 (cond (!(okS N0 (toW Z0 N0 0 0 1 2 2147483649) 1)) 0 (toW Z0 N0 0 0 1 2 2147483649))) 0) 1 7) N0 (litBin .add .u64 (cond (isW Z0 N0 0 0 1 2 2147483650) 0 (cond (!(okS N0 (toW Z0 N0 0 0 1 2 2147483650) 1)) 0 (toW Z0 N0 0 0 1 2 2147483650))) 0) 1 0) N0 (litBin .add .u64 (cond (isW Z0 N0 0 0 1 2 2147483651) 0 (cond (!(okS N0 (toW Z0 N0 0 0 1 2 2147483651) 1)) 0 (toW Z0 N0 0 0 1 2 2147483651))) 0) 1 0) N0 (litBin .add .u64 (cond (isW Z0 N0 0 0 1 2 2147483652) 0 (cond (!(okS N0 (toW Z0 N0 0 0 1 2 2147483652) 1)) 0 (toW Z0 N0 0 0 1 2 2147483652))) 0) 1 0) N0 0 0 1 1 2147483648) (cond (!(okS N0 (toW (putF (putF (putF (putF Z0 N0 (litBin .add .u64 (cond (isW Z0 N0 0 0 1 2 2147483649) 0 (cond (!(okS N0 (toW Z0 N0 0 0 1 2 2147483649) 1)) 0 (toW Z0 N0 0 0 1 2 2147483649))) 0) 1 7) N0 (litBin .add .u64 (cond (isW Z0 N0 0 0 1 2 2147483650) 0 (cond (!(okS N0 (toW Z0 N0 0 0 1 2 2147483650) 1)) 0 (toW Z0 N0 0 0 1 2 2147483650))) 0) 1 0) N0 (litBin .add .u64 (cond (isW Z0 N0 0 0 1 2 2147483651) 0 (cond (!(okS N0 (toW Z0 N0 0 0 1 2 2147483651) 1)) 0 (toW Z0 N0 0 0 1 2 2147483651))) 0) 1 0) N0 (litBin .add .u64 (cond (isW Z0 N0 0 0 1 2 2147483652) 0 (cond (!(okS N0 (toW Z0 N0 0 0 1 2 2147483652) 1)) 0 (toW Z0 N0 0 0 1 2 2147483652))) 0) 1 0) N0 0 0 1 1 2147483648) 8)) true (isW (putF (putF (putF (putF Z0 N0 (litBin .add .u64 (cond (isW Z0 N0 0 0 1 2 2147483649) 0 (cond (!(okS N0 (toW Z0 N0 0 0 1 2 2147483649) 1)) 0 (toW Z0 N0 0 0 1 2 2147483649))) 0) 1 7) N0 (litBin .add .u64 (cond (isW Z0 N0 0 0 1 2 2147483650) 0 (cond (!(okS N0 (toW Z0 N0 0 0 1 2 2147483650) 1)) 0 (toW Z0 N0 0 0 1 2 2147483650))) 0) 1 0) N0 (litBin .add .u64 (cond (isW Z0 N0 0 0 1 2 2147483651) 0 (cond (!(okS N0 (toW Z0 N0 0 0 1 2 2147483651) 1)) 0 (toW Z0 N0 0 0 1 2 2147483651))) 0) 1 0) N0 (litBin .add .u64 (cond (isW Z0 N0 0 0 1 2 2147483652) 0 (cond (!(okS N0 (toW Z0 N0 0 0 1 2 2147483652) 1)) 0 (toW Z0 N0 0 0 1 2 2147483652))) 0) 1 0) N0 0 0 1 1 2147483648)))
noncomputable def t12 : Bool := ((askM N0 N0 N0 (putF (putF (putF (putF Z0 N0 (litBin .add .u64 (cond (isW Z0 N0 0 0 1 2 2147483649) 0 (cond (!(okS N0 (toW Z0 N0 0 0 1 2 2147483649) 1)) 0 (toW Z0 N0 0 0 1 2 2147483649))) 0) 1 7) N0 (litBin .add .u64 (cond (isW Z0 N0 0 0 1 2 2147483650) 0 (cond (!(okS N0 (toW Z0 N0 0 0 1 2 2147483650) 1)) 0 (toW Z0 N0 0 0 1 2 2147483650))) 0) 1 0) N0 (litBin .add .u64 (cond (isW Z0 N0 0 0 1 2 2147483651) 0 (cond (!(okS N0 (toW Z0 N0 0 0 1 2 2147483651) 1)) 0 (toW Z0 N0 0 0 1 2 2147483651))) 0) 1 0) N0 (litBin .add .u64 (cond (isW Z0 N0 0 0 1 2 2147483652) 0 (cond (!(okS N0 (toW Z0 N0 0 0 1 2 2147483652) 1)) 0 (toW Z0 N0 0 0 1 2 2147483652))) 0) 1 0) (litBin .add .u64 (cond (isW (putF (putF (putF (putF Z0 N0 (litBin .add .u64 (cond (isW Z0 N0 0 0 1 2 2147483649) 0 (cond (!(okS N0 (toW Z0 N0 0 0 1 2 2147483649) 1)) 0 (toW Z0 N0 0 0 1 2 2147483649))) 0) 1 7) N0 (litBin .add .u64 (cond (isW Z0 N0 0 0 1 2 2147483650) 0 (cond (!(okS N0 (toW Z0 N0 0 0 1 2 2147483650) 1)) 0 (toW Z0 N0 0 0 1 2 2147483650))) 0) 1 0) N0 (litBin .add .u64 (cond (isW Z0 N0 0 0 1 2 2147483651) 0 (cond (!(okS N0 (toW Z0 N0 0 0 1 2 2147483651) 1)) 0 (toW Z0 N0 0 0 1 2 2147483651))) 0) 1 0) N0 (litBin .add .u64 (cond (isW Z0 N0 0 0 1 2 2147483652) 0 (cond (!(okS N0 (toW Z0 N0 0 0 1 2 2147483652) 1)) 0 (toW Z0 N0 0 0 1 2 2147483652))) 0) 1 0) N0 0 0 1 1 2147483648) 0 (cond (!(okS N0 (toW (putF (putF (putF (putF Z0 N0 (litBin .add .u64 (cond (isW Z0 N0 0 0 1 2 2147483649) 0 (cond (!(okS N0 (toW Z0 N0 0 0 1 2 2147483649) 1)) 0 (toW Z0 N0 0 0 1 2 2147483649))) 0) 1 7) N0 (litBin .add .u64 (cond (isW Z0 N0 0 0 1 2 2147483650) 0 (cond (!(okS N0 (toW Z0 N0 0 0 1 2 2147483650) 1)) 0 (toW Z0 N0 0 0 1 2 2147483650))) 0) 1 0) N0 (litBin .add .u64 (cond (isW Z0 N0 0 0 1 2 2147483651) 0 (cond (!(okS N0 (toW Z0 N0 0 0 1 2 2147483651) 1)) 0 (toW Z0 N0 0 0 1 2 2147483651))) 0) 1 0) N0 (litBin .add .u64 (cond (isW Z0 N0 0 0 1 2 2147483652) 0 (cond (!(okS N0 (toW Z0 N0 0 0 1 2 2147483652) 1)) 0 (toW Z0 N0 0 0 1 2 2147483652))) 0) 1 0) N0 0 0 1 1 2147483648) 8)) 0 (toW (putF (putF (putF (putF Z0 N0 (litBin .add .u64 (cond (isW Z0 N0 0 0 1 2 2147483649) 0 (cond (!(okS N0 (toW Z0 N0 0 0 1 2 2147483649) 1)) 0 (toW Z0 N0 0 0 1 2 2147483649))) 0) 1 7) N0 (litBin .add .u64 (cond (isW Z0 N0 0 0 1 2 2147483650) 0 (cond (!(okS N0 (toW Z0 N0 0 0 1 2 2147483650) 1)) 0 (toW Z0 N0 0 0 1 2 2147483650))) 0) 1 0) N0 (litBin .add .u64 (cond (isW Z0 N0 0 0 1 2 2147483651) 0 (cond (!(okS N0 (toW Z0 N0 0 0 1 2 2147483651) 1)) 0 (toW Z0 N0 0 0 1 2 2147483651))) 0) 1 0) N0 (litBin .add .u64 (cond (isW Z0 N0 0 0 1 2 2147483652) 0 (cond (!(okS N0 (toW Z0 N0 0 0 1 2 2147483652) 1)) 0 (toW Z0 N0 0 0 1 2 2147483652))) 0) 1 0) N0 0 0 1 1 2147483648))) 0) 1) && ((askM N0 N0 N0 (putF (putF (putF (putF Z0 N0 (litBin .add .u64 (cond (isW Z0 N0 0 0 1 2 2147483649) 0 (cond (!(okS N0 (toW Z0 N0 0 0 1 2 2147483649) 1)) 0 (toW Z0 N0 0 0 1 2 2147483649))) 0) 1 7) N0 (litBin .add .u64 (cond (isW Z0 N0 0 0 1 2 2147483650) 0 (cond (!(okS N0 (toW Z0 N0 0 0 1 2 2147483650) 1)) 0 (toW Z0 N0 0 0 1 2 2147483650))) 0) 1 0) N0 (litBin .add .u64 (cond (isW Z0 N0 0 0 1 2 2147483651) 0 (cond (!(okS N0 (toW Z0 N0 0 0 1 2 2147483651) 1)) 0 (toW Z0 N0 0 0 1 2 2147483651))) 0) 1 0) N0 (litBin .add .u64 (cond (isW Z0 N0 0 0 1 2 2147483652) 0 (cond (!(okS N0 (toW Z0 N0 0 0 1 2 2147483652) 1)) 0 (toW Z0 N0 0 0 1 2 2147483652))) 0) 1 0) (litBin .add .u64 (cond (isW (putF (putF (putF (putF Z0 N0 (litBin .add .u64 (cond (isW Z0 N0 0 0 1 2 2147483649) 0 (cond (!(okS N0 (toW Z0 N0 0 0 1 2 2147483649) 1)) 0 (toW Z0 N0 0 0 1 2 2147483649))) 0) 1 7) N0 (litBin .add .u64 (cond (isW Z0 N0 0 0 1 2 2147483650) 0 (cond (!(okS N0 (toW Z0 N0 0 0 1 2 2147483650) 1)) 0 (toW Z0 N0 0 0 1 2 2147483650))) 0) 1 0) N0 (litBin .add .u64 (cond (isW Z0 N0 0 0 1 2 2147483651) 0 (cond (!(okS N0 (toW Z0 N0 0 0 1 2 2147483651) 1)) 0 (toW Z0 N0 0 0 1 2 2147483651))) 0) 1 0) N0 (litBin .add .u64 (cond (isW Z0 N0 0 0 1 2 2147483652) 0 (cond (!(okS N0 (toW Z0 N0 0 0 1 2 2147483652) 1)) 0 (toW Z0 N0 0 0 1 2 2147483652))) 0) 1 0) N0 0 0 1 1 2147483648) 0 (cond (!(okS N0 (toW (putF (putF (putF (putF Z0 N0 (litBin .add .u64 (cond (isW Z0 N0 0 0 1 2 2147483649) 0 (cond (!(okS N0 (toW Z0 N0 0 0 1 2 2147483649) 1)) 0 (toW Z0 N0 0 0 1 2 2147483649))) 0) 1 7) N0 (litBin .add .u64 (cond (isW Z0 N0 0 0 1 2 2147483650) 0 (cond (!(okS N0 (toW Z0 N0 0 0 1 2 2147483650) 1)) 0 (toW Z0 N0 0 0 1 2 2147483650))) 0) 1 0) N0 (litBin .add .u64 (cond (isW Z0 N0 0 0 1 2 2147483651) 0 (cond (!(okS N0 (toW Z0 N0 0 0 1 2 2147483651) 1)) 0 (toW Z0 N0 0 0 1 2 2147483651))) 0) 1 0) N0 (litBin .add .u64 (cond (isW Z0 N0 0 0 1 2 2147483652) 0 (cond (!(okS N0 (toW Z0 N0 0 0 1 2 2147483652) 1)) 0 (toW Z0 N0 0 0 1 2 2147483652))) 0) 1 0) N0 0 0 1 1 2147483648) 8)) 0 (toW (putF (putF (putF (putF Z0 N0 (litBin .add .u64 (cond (isW Z0 N0 0 0 1 2 2147483649) 0 (cond (!(okS N0 (toW Z0 N0 0 0 1 2 2147483649) 1)) 0 (toW Z0 N0 0 0 1 2 2147483649))) 0) 1 7) N0 (litBin .add .u64 (cond (isW Z0 N0 0 0 1 2 2147483650) 0 (cond (!(okS N0 (toW Z0 N0 0 0 1 2 2147483650) 1)) 0 (toW Z0 N0 0 0 1 2 2147483650))) 0) 1 0) N0 (litBin .add .u64 (cond (isW Z0 N0 0 0 1 2 2147483651) 0 (cond (!(okS N0 (toW Z0 N0 0 0 1 2 2147483651) 1)) 0 (toW Z0 N0 0 0 1 2 2147483651))) 0) 1 0) N0 (litBin .add .u64 (cond (isW Z0 N0 0 0 1 2 2147483652) 0 (cond (!(okS N0 (toW Z0 N0 0 0 1 2 2147483652) 1)) 0 (toW Z0 N0 0 0 1 2 2147483652))) 0) 1 0) N0 0 0 1 1 2147483648))) 1) 1) && ((askM N0 N0 N0 (putF (putF (putF (putF Z0 N0 (litBin .add .u64 (cond (isW Z0 N0 0 0 1 2 2147483649) 0 (cond (!(okS N0 (toW Z0 N0 0 0 1 2 2147483649) 1)) 0 (toW Z0 N0 0 0 1 2 2147483649))) 0) 1 7) N0 (litBin .add .u64 (cond (isW Z0 N0 0 0 1 2 2147483650) 0 (cond (!(okS N0 (toW Z0 N0 0 0 1 2 2147483650) 1)) 0 (toW Z0 N0 0 0 1 2 2147483650))) 0) 1 0) N0 (litBin .add .u64 (cond (isW Z0 N0 0 0 1 2 2147483651) 0 (cond (!(okS N0 (toW Z0 N0 0 0 1 2 2147483651) 1)) 0 (toW Z0 N0 0 0 1 2 2147483651))) 0) 1 0) N0 (litBin .add .u64 (cond (isW Z0 N0 0 0 1 2 2147483652) 0 (cond (!(okS N0 (toW Z0 N0 0 0 1 2 2147483652) 1)) 0 (toW Z0 N0 0 0 1 2 2147483652))) 0) 1 0) (litBin .add .u64 (cond (isW (putF (putF (putF (putF Z0 N0 (litBin .add .u64 (cond (isW Z0 N0 0 0 1 2 2147483649) 0 (cond (!(okS N0 (toW Z0 N0 0 0 1 2 2147483649) 1)) 0 (toW Z0 N0 0 0 1 2 2147483649))) 0) 1 7) N0 (litBin .add .u64 (cond (isW Z0 N0 0 0 1 2 2147483650) 0 (cond (!(okS N0 (toW Z0 N0 0 0 1 2 2147483650) 1)) 0 (toW Z0 N0 0 0 1 2 2147483650))) 0) 1 0) N0 (litBin .add .u64 (cond (isW Z0 N0 0 0 1 2 2147483651) 0 (cond (!(okS N0 (toW Z0 N0 0 0 1 2 2147483651) 1)) 0 (toW Z0 N0 0 0 1 2 2147483651))) 0) 1 0) N0 (litBin .add .u64 (cond (isW Z0 N0 0 0 1 2 2147483652) 0 (cond (!(okS N0 (toW Z0 N0 0 0 1 2 2147483652) 1)) 0 (toW Z0 N0 0 0 1 2 2147483652))) 0) 1 0) N0 0 0 1 1 2147483648) 0 (cond (!(okS N0 (toW (putF (putF (putF (putF Z0 N0 (litBin .add .u64 (cond (isW Z0 N0 0 0 1 2 2147483649) 0 (cond (!(okS N0 (toW Z0 N0 0 0 1 2 2147483649) 1)) 0 (toW Z0 N0 0 0 1 2 2147483649))) 0) 1 7) N0 (litBin .add .u64 (cond (isW Z0 N0 0 0 1 2 2147483650) 0 (cond (!(okS N0 (toW Z0 N0 0 0 1 2 2147483650) 1)) 0 (toW Z0 N0 0 0 1 2 2147483650))) 0) 1 0) N0 (litBin .add .u64 (cond (isW Z0 N0 0 0 1 2 2147483651) 0 (cond (!(okS N0 (toW Z0 N0 0 0 1 2 2147483651) 1)) 0 (toW Z0 N0 0 0 1 2 2147483651))) 0) 1 0) N0 (litBin .add .u64 (cond (isW Z0 N0 0 0 1 2 2147483652) 0 (cond (!(okS N0 (toW Z0 N0 0 0 1 2 2147483652) 1)) 0 (toW Z0 N0 0 0 1 2 2147483652))) 0) 1 0) N0 0 0 1 1 2147483648) 8)) 0 (toW (putF (putF (putF (putF Z0 N0 (litBin .add .u64 (cond (isW Z0 N0 0 0 1 2 2147483649) 0 (cond (!(okS N0 (toW Z0 N0 0 0 1 2 2147483649) 1)) 0 (toW Z0 N0 0 0 1 2 2147483649))) 0) 1 7) N0 (litBin .add .u64 (cond (isW Z0 N0 0 0 1 2 2147483650) 0 (cond (!(okS N0 (toW Z0 N0 0 0 1 2 2147483650) 1)) 0 (toW Z0 N0 0 0 1 2 2147483650))) 0) 1 0) N0 (litBin .add .u64 (cond (isW Z0 N0 0 0 1 2 2147483651) 0 (cond (!(okS N0 (toW Z0 N0 0 0 1 2 2147483651) 1)) 0 (toW Z0 N0 0 0 1 2 2147483651))) 0) 1 0) N0 (litBin .add .u64 (cond (isW Z0 N0 0 0 1 2 2147483652) 0 (cond (!(okS N0 (toW Z0 N0 0 0 1 2 2147483652) 1)) 0 (toW Z0 N0 0 0 1 2 2147483652))) 0) 1 0) N0 0 0 1 1 2147483648))) 2) 1) && ((askM N0 N0 N0 (putF (putF (putF (putF Z0 N0 (litBin .add .u64 (cond (isW Z0 N0 0 0 1 2 2147483649) 0 (cond (!(okS N0 (toW Z0 N0 0 0 1 2 2147483649) 1)) 0 (toW Z0 N0 0 0 1 2 2147483649))) 0) 1 7) N0 (litBin .add .u64 (cond (isW Z0 N0 0 0 1 2 2147483650) 0 (cond (!(okS N0 (toW Z0 N0 0 0 1 2 2147483650) 1)) 0 (toW Z0 N0 0 0 1 2 2147483650))) 0) 1 0) N0 (litBin .add .u64 (cond (isW Z0 N0 0 0 1 2 2147483651) 0 (cond (!(okS N0 (toW Z0 N0 0 0 1 2 2147483651) 1)) 0 (toW Z0 N0 0 0 1 2 2147483651))) 0) 1 0) N0 (litBin .add .u64 (cond (isW Z0 N0 0 0 1 2 2147483652) 0 (cond (!(okS N0 (toW Z0 N0 0 0 1 2 2147483652) 1)) 0 (toW Z0 N0 0 0 1 2 2147483652))) 0) 1 0) (litBin .add .u64 (cond (isW (putF (putF (putF (putF Z0 N0 (litBin .add .u64 (cond (isW Z0 N0 0 0 1 2 2147483649) 0 (cond (!(okS N0 (toW Z0 N0 0 0 1 2 2147483649) 1)) 0 (toW Z0 N0 0 0 1 2 2147483649))) 0) 1 7) N0 (litBin .add .u64 (cond (isW Z0 N0 0 0 1 2 2147483650) 0 (cond (!(okS N0 (toW Z0 N0 0 0 1 2 2147483650) 1)) 0 (toW Z0 N0 0 0 1 2 2147483650))) 0) 1 0) N0 (litBin .add .u64 (cond (isW Z0 N0 0 0 1 2 2147483651) 0 (cond (!(okS N0 (toW Z0 N0 0 0 1 2 2147483651) 1)) 0 (toW Z0 N0 0 0 1 2 2147483651))) 0) 1 0) N0 (litBin .add .u64 (cond (isW Z0 N0 0 0 1 2 2147483652) 0 (cond (!(okS N0 (toW Z0 N0 0 0 1 2 2147483652) 1)) 0 (toW Z0 N0 0 0 1 2 2147483652))) 0) 1 0) N0 0 0 1 1 2147483648) 0 (cond (!(okS N0 (toW (putF (putF (putF (putF Z0 N0 (litBin .add .u64 (cond (isW Z0 N0 0 0 1 2 2147483649) 0 (cond (!(okS N0 (toW Z0 N0 0 0 1 2 2147483649) 1)) 0 (toW Z0 N0 0 0 1 2 2147483649))) 0) 1 7) N0 (litBin .add .u64 (cond (isW Z0 N0 0 0 1 2 2147483650) 0 (cond (!(okS N0 (toW Z0 N0 0 0 1 2 2147483650) 1)) 0 (toW Z0 N0 0 0 1 2 2147483650))) 0) 1 0) N0 (litBin .add .u64 (cond (isW Z0 N0 0 0 1 2 2147483651) 0 (cond (!(okS N0 (toW Z0 N0 0 0 1 2 2147483651) 1)) 0 (toW Z0 N0 0 0 1 2 2147483651))) 0) 1 0) N0 (litBin .add .u64 (cond (isW Z0 N0 0 0 1 2 2147483652) 0 (cond (!(okS N0 (toW Z0 N0 0 0 1 2 2147483652) 1)) 0 (toW Z0 N0 0 0 1 2 2147483652))) 0) 1 0) N0 0 0 1 1 2147483648) 8)) 0 (toW (putF (putF (putF (putF Z0 N0 (litBin .add .u64 (cond (isW Z0 N0 0 0 1 2 2147483649) 0 (cond (!(okS N0 (toW Z0 N0 0 0 1 2 2147483649) 1)) 0 (toW Z0 N0 0 0 1 2 2147483649))) 0) 1 7) N0 (litBin .add .u64 (cond (isW Z0 N0 0 0 1 2 2147483650) 0 (cond (!(okS N0 (toW Z0 N0 0 0 1 2 2147483650) 1)) 0 (toW Z0 N0 0 0 1 2 2147483650))) 0) 1 0) N0 (litBin .add .u64 (cond (isW Z0 N0 0 0 1 2 2147483651) 0 (cond (!(okS N0 (toW Z0 N0 0 0 1 2 2147483651) 1)) 0 (toW Z0 N0 0 0 1 2 2147483651))) 0) 1 0) N0 (litBin .add .u64 (cond (isW Z0 N0 0 0 1 2 2147483652) 0 (cond (!(okS N0 (toW Z0 N0 0 0 1 2 2147483652) 1)) 0 (toW Z0 N0 0 0 1 2 2147483652))) 0) 1 0) N0 0 0 1 1 2147483648))) 3) 1) && ((askM N0 N0 N0 (putF (putF (putF (putF Z0 N0 (litBin .add .u64 (cond (isW Z0 N0 0 0 1 2 2147483649) 0 (cond (!(okS N0 (toW Z0 N0 0 0 1 2 2147483649) 1)) 0 (toW Z0 N0 0 0 1 2 2147483649))) 0) 1 7) N0 (litBin .add .u64 (cond (isW Z0 N0 0 0 1 2 2147483650) 0 (cond (!(okS N0 (toW Z0 N0 0 0 1 2 2147483650) 1)) 0 (toW Z0 N0 0 0 1 2 2147483650))) 0) 1 0) N0 (litBin .add .u64 (cond (isW Z0 N0 0 0 1 2 2147483651) 0 (cond (!(okS N0 (toW Z0 N0 0 0 1 2 2147483651) 1)) 0 (toW Z0 N0 0 0 1 2 2147483651))) 0) 1 0) N0 (litBin .add .u64 (cond (isW Z0 N0 0 0 1 2 2147483652) 0 (cond (!(okS N0 (toW Z0 N0 0 0 1 2 2147483652) 1)) 0 (toW Z0 N0 0 0 1 2 2147483652))) 0) 1 0) (litBin .add .u64 (cond (isW (putF (putF (putF (putF Z0 N0 (litBin .add .u64 (cond (isW Z0 N0 0 0 1 2 2147483649) 0 (cond (!(okS N0 (toW Z0 N0 0 0 1 2 2147483649) 1)) 0 (toW Z0 N0 0 0 1 2 2147483649))) 0) 1 7) N0 (litBin .add .u64 (cond (isW Z0 N0 0 0 1 2 2147483650) 0 (cond (!(okS N0 (toW Z0 N0 0 0 1 2 2147483650) 1)) 0 (toW Z0 N0 0 0 1 2 2147483650))) 0) 1 0) N0 (litBin .add .u64 (cond (isW Z0 N0 0 0 1 2 2147483651) 0 (cond (!(okS N0 (toW Z0 N0 0 0 1 2 2147483651) 1)) 0 (toW Z0 N0 0 0 1 2 2147483651))) 0) 1 0) N0 (litBin .add .u64 (cond (isW Z0 N0 0 0 1 2 2147483652) 0 (cond (!(okS N0 (toW Z0 N0 0 0 1 2 2147483652) 1)) 0 (toW Z0 N0 0 0 1 2 2147483652))) 0) 1 0) N0 0 0 1 1 2147483648) 0 (cond (!(okS N0 (toW (putF (putF (putF (putF Z0 N0 (litBin .add .u64 (cond (isW Z0 N0 0 0 1 2 2147483649) 0 (cond (!(okS N0 (toW Z0 N0 0 0 1 2 2147483649) 1)) 0 (toW Z0 N0 0 0 1 2 2147483649))) 0) 1 7) N0 (litBin .add .u64 (cond (isW Z0 N0 0 0 1 2 2147483650) 0 (cond (!(okS N0 (toW Z0 N0 0 0 1 2 2147483650) 1)) 0 (toW Z0 N0 0 0 1 2 2147483650))) 0) 1 0) N0 (litBin .add .u64 (cond (isW Z0 N0 0 0 1 2 2147483651) 0 (cond (!(okS N0 (toW Z0 N0 0 0 1 2 2147483651) 1)) 0 (toW Z0 N0 0 0 1 2 2147483651))) 0) 1 0) N0 (litBin .add .u64 (cond (isW Z0 N0 0 0 1 2 2147483652) 0 (cond (!(okS N0 (toW Z0 N0 0 0 1 2 2147483652) 1)) 0 (toW Z0 N0 0 0 1 2 2147483652))) 0) 1 0) N0 0 0 1 1 2147483648) 8)) 0 (toW (putF (putF (putF (putF Z0 N0 (litBin .add .u64 (cond (isW Z0 N0 0 0 1 2 2147483649) 0 (cond (!(okS N0 (toW Z0 N0 0 0 1 2 2147483649) 1)) 0 (toW Z0 N0 0 0 1 2 2147483649))) 0) 1 7) N0 (litBin .add .u64 (cond (isW Z0 N0 0 0 1 2 2147483650) 0 (cond (!(okS N0 (toW Z0 N0 0 0 1 2 2147483650) 1)) 0 (toW Z0 N0 0 0 1 2 2147483650))) 0) 1 0) N0 (litBin .add .u64 (cond (isW Z0 N0 0 0 1 2 2147483651) 0 (cond (!(okS N0 (toW Z0 N0 0 0 1 2 2147483651) 1)) 0 (toW Z0 N0 0 0 1 2 2147483651))) 0) 1 0) N0 (litBin .add .u64 (cond (isW Z0 N0 0 0 1 2 2147483652) 0 (cond (!(okS N0 (toW Z0 N0 0 0 1 2 2147483652) 1)) 0 (toW Z0 N0 0 0 1 2 2147483652))) 0) 1 0) N0 0 0 1 1 2147483648))) 4) 1) && ((askM N0 N0 N0 (putF (putF (putF (putF Z0 N0 (litBin .add .u64 (cond (isW Z0 N0 0 0 1 2 2147483649) 0 (cond (!(okS N0 (toW Z0 N0 0 0 1 2 2147483649) 1)) 0 (toW Z0 N0 0 0 1 2 2147483649))) 0) 1 7) N0 (litBin .add .u64 (cond (isW Z0 N0 0 0 1 2 2147483650) 0 (cond (!(okS N0 (toW Z0 N0 0 0 1 2 2147483650) 1)) 0 (toW Z0 N0 0 0 1 2 2147483650))) 0) 1 0) N0 (litBin .add .u64 (cond (isW Z0 N0 0 0 1 2 2147483651) 0 (cond (!(okS N0 (toW Z0 N0 0 0 1 2 2147483651) 1)) 0 (toW Z0 N0 0 0 1 2 2147483651))) 0) 1 0) N0 (litBin .add .u64 (cond (isW Z0 N0 0 0 1 2 2147483652) 0 (cond (!(okS N0 (toW Z0 N0 0 0 1 2 2147483652) 1)) 0 (toW Z0 N0 0 0 1 2 2147483652))) 0) 1 0) (litBin .add .u64 (cond (isW (putF (putF (putF (putF Z0 N0 (litBin .add .u64 (cond (isW Z0 N0 0 0 1 2 2147483649) 0 (cond (!(okS N0 (toW Z0 N0 0 0 1 2 2147483649) 1)) 0 (toW Z0 N0 0 0 1 2 2147483649))) 0) 1 7) N0 (litBin .add .u64 (cond (isW Z0 N0 0 0 1 2 2147483650) 0 (cond (!(okS N0 (toW Z0 N0 0 0 1 2 2147483650) 1)) 0 (toW Z0 N0 0 0 1 2 2147483650))) 0) 1 0) N0 (litBin .add .u64 (cond (isW Z0 N0 0 0 1 2 2147483651) 0 (cond (!(okS N0 (toW Z0 N0 0 0 1 2 2147483651) 1)) 0 (toW Z0 N0 0 0 1 2 2147483651))) 0) 1 0) N0 (litBin .add .u64 (cond (isW Z0 N0 0 0 1 2 2147483652) 0 (cond (!(okS N0 (toW Z0 N0 0 0 1 2 2147483652) 1)) 0 (toW Z0 N0 0 0 1 2 2147483652))) 0) 1 0) N0 0 0 1 1 2147483648) 0 (cond (!(okS N0 (toW (putF (putF (putF (putF Z0 N0 (litBin .add .u64 (cond (isW Z0 N0 0 0 1 2 2147483649) 0 (cond (!(okS N0 (toW Z0 N0 0 0 1 2 2147483649) 1)) 0 (toW Z0 N0 0 0 1 2 2147483649))) 0) 1 7) N0 (litBin .add .u64 (cond (isW Z0 N0 0 0 1 2 2147483650) 0 (cond (!(okS N0 (toW Z0 N0 0 0 1 2 2147483650) 1)) 0 (toW Z0 N0 0 0 1 2 2147483650))) 0) 1 0) N0 (litBin .add .u64 (cond (isW Z0 N0 0 0 1 2 2147483651) 0 (cond (!(okS N0 (toW Z0 N0 0 0 1 2 2147483651) 1)) 0 (toW Z0 N0 0 0 1 2 2147483651))) 0) 1 0) N0 (litBin .add .u64 (cond (isW Z0 N0 0 0 1 2 2147483652) 0 (cond (!(okS N0 (toW Z0 N0 0 0 1 2 2147483652) 1)) 0 (toW Z0 N0 0 0 1 2 2147483652))) 0) 1 0) N0 0 0 1 1 2147483648) 8)) 0 (toW (putF (putF (putF (putF Z0 N0 (litBin .add .u64 (cond (isW Z0 N0 0 0 1 2 2147483649) 0 (cond (!(okS N0 (toW Z0 N0 0 0 1 2 2147483649) 1)) 0 (toW Z0 N0 0 0 1 2 2147483649))) 0) 1 7) N0 (litBin .add .u64 (cond (isW Z0 N0 0 0 1 2 2147483650) 0 (cond (!(okS N0 (toW Z0 N0 0 0 1 2 2147483650) 1)) 0 (toW Z0 N0 0 0 1 2 2147483650))) 0) 1 0) N0 (litBin .add .u64 (cond (isW Z0 N0 0 0 1 2 2147483651) 0 (cond (!(okS N0 (toW Z0 N0 0 0 1 2 2147483651) 1)) 0 (toW Z0 N0 0 0 1 2 2147483651))) 0) 1 0) N0 (litBin .add .u64 (cond (isW Z0 N0 0 0 1 2 2147483652) 0 (cond (!(okS N0 (toW Z0 N0 0 0 1 2 2147483652) 1)) 0 (toW Z0 N0 0 0 1 2 2147483652))) 0) 1 0) N0 0 0 1 1 2147483648))) 5) 1) && ((askM N0 N0 N0 (putF (putF (putF (putF Z0 N0 (litBin .add .u64 (cond (isW Z0 N0 0 0 1 2 2147483649) 0 (cond (!(okS N0 (toW Z0 N0 0 0 1 2 2147483649) 1)) 0 (toW Z0 N0 0 0 1 2 2147483649))) 0) 1 7) N0 (litBin .add .u64 (cond (isW Z0 N0 0 0 1 2 2147483650) 0 (cond (!(okS N0 (toW Z0 N0 0 0 1 2 2147483650) 1)) 0 (toW Z0 N0 0 0 1 2 2147483650))) 0) 1 0) N0 (litBin .add .u64 (cond (isW Z0 N0 0 0 1 2 2147483651) 0 (cond (!(okS N0 (toW Z0 N0 0 0 1 2 2147483651) 1)) 0 (toW Z0 N0 0 0 1 2 2147483651))) 0) 1 0) N0 (litBin .add .u64 (cond (isW Z0 N0 0 0 1 2 2147483652) 0 (cond (!(okS N0 (toW Z0 N0 0 0 1 2 2147483652) 1)) 0 (toW Z0 N0 0 0 1 2 2147483652))) 0) 1 0) (litBin .add .u64 (cond (isW (putF (putF (putF (putF Z0 N0 (litBin .add .u64 (cond (isW Z0 N0 0 0 1 2 2147483649) 0 (cond (!(okS N0 (toW Z0 N0 0 0 1 2 2147483649) 1)) 0 (toW Z0 N0 0 0 1 2 2147483649))) 0) 1 7) N0 (litBin .add .u64 (cond (isW Z0 N0 0 0 1 2 2147483650) 0 (cond (!(okS N0 (toW Z0 N0 0 0 1 2 2147483650) 1)) 0 (toW Z0 N0 0 0 1 2 2147483650))) 0) 1 0) N0 (litBin .add .u64 (cond (isW Z0 N0 0 0 1 2 2147483651) 0 (cond (!(okS N0 (toW Z0 N0 0 0 1 2 2147483651) 1)) 0 (toW Z0 N0 0 0 1 2 2147483651))) 0) 1 0) N0 (litBin .add .u64 (cond (isW Z0 N0 0 0 1 2 2147483652) 0 (cond (!(okS N0 (toW Z0 N0 0 0 1 2 2147483652) 1)) 0 (toW Z0 N0 0 0 1 2 2147483652))) 0) 1 0) N0 0 0 1 1 2147483648) 0 (cond (!(okS N0 (toW (putF (putF (putF (putF Z0 N0 (litBin .add .u64 (cond (isW Z0 N0 0 0 1 2 2147483649) 0 (cond (!(okS N0 (toW Z0 N0 0 0 1 2 2147483649) 1)) 0 (toW Z0 N0 0 0 1 2 2147483649))) 0) 1 7) N0 (litBin .add .u64 (cond (isW Z0 N0 0 0 1 2 2147483650) 0 (cond (!(okS N0 (toW Z0 N0 0 0 1 2 2147483650) 1)) 0 (toW Z0 N0 0 0 1 2 2147483650))) 0) 1 0) N0 (litBin .add .u64 (cond (isW Z0 N0 0 0 1 2 2147483651) 0 (cond (!(okS N0 (toW Z0 N0 0 0 1 2 2147483651) 1)) 0 (toW Z0 N0 0 0 1 2 2147483651))) 0) 1 0) N0 (litBin .add .u64 (cond (isW Z0 N0 0 0 1 2 2147483652) 0 (cond (!(okS N0 (toW Z0 N0 0 0 1 2 2147483652) 1)) 0 (toW Z0 N0 0 0 1 2 2147483652))) 0) 1 0) N0 0 0 1 1 2147483648) 8)) 0 (toW (putF (putF (putF (putF Z0 N0 (litBin .add .u64 (cond (isW Z0 N0 0 0 1 2 2147483649) 0 (cond (!(okS N0 (toW Z0 N0 0 0 1 2 2147483649) 1)) 0 (toW Z0 N0 0 0 1 2 2147483649))) 0) 1 7) N0 (litBin .add .u64 (cond (isW Z0 N0 0 0 1 2 2147483650) 0 (cond (!(okS N0 (toW Z0 N0 0 0 1 2 2147483650) 1)) 0 (toW Z0 N0 0 0 1 2 2147483650))) 0) 1 0) N0 (litBin .add .u64 (cond (isW Z0 N0 0 0 1 2 2147483651) 0 (cond (!(okS N0 (toW Z0 N0 0 0 1 2 2147483651) 1)) 0 (toW Z0 N0 0 0 1 2 2147483651))) 0) 1 0) N0 (litBin .add .u64 (cond (isW Z0 N0 0 0 1 2 2147483652) 0 (cond (!(okS N0 (toW Z0 N0 0 0 1 2 2147483652) 1)) 0 (toW Z0 N0 0 0 1 2 2147483652))) 0) 1 0) N0 0 0 1 1 2147483648))) 6) 1) && (askM N0 N0 N0 (putF (putF (putF (putF Z0 N0 (litBin .add .u64 (cond (isW Z0 N0 0 0 1 2 2147483649) 0 (cond (!(okS N0 (toW Z0 N0 0 0 1 2 2147483649) 1)) 0 (toW Z0 N0 0 0 1 2 2147483649))) 0) 1 7) N0 (litBin .add .u64 (cond (isW Z0 N0 0 0 1 2 2147483650) 0 (cond (!(okS N0 (toW Z0 N0 0 0 1 2 2147483650) 1)) 0 (toW Z0 N0 0 0 1 2 2147483650))) 0) 1 0) N0 (litBin .add .u64 (cond (isW Z0 N0 0 0 1 2 2147483651) 0 (cond (!(okS N0 (toW Z0 N0 0 0 1 2 2147483651) 1)) 0 (toW Z0 N0 0 0 1 2 2147483651))) 0) 1 0) N0 (litBin .add .u64 (cond (isW Z0 N0 0 0 1 2 2147483652) 0 (cond (!(okS N0 (toW Z0 N0 0 0 1 2 2147483652) 1)) 0 (toW Z0 N0 0 0 1 2 2147483652))) 0) 1 0) (litBin .add .u64 (cond (isW (putF (putF (putF (putF Z0 N0 (litBin .add .u64 (cond (isW Z0 N0 0 0 1 2 2147483649) 0 (cond (!(okS N0 (toW Z0 N0 0 0 1 2 2147483649) 1)) 0 (toW Z0 N0 0 0 1 2 2147483649))) 0) 1 7) N0 (litBin .add .u64 (cond (isW Z0 N0 0 0 1 2 2147483650) 0 (cond (!(okS N0 (toW Z0 N0 0 0 1 2 2147483650) 1)) 0 (toW Z0 N0 0 0 1 2 2147483650))) 0) 1 0) N0 (litBin .add .u64 (cond (isW Z0 N0 0 0 1 2 2147483651) 0 (cond (!(okS N0 (toW Z0 N0 0 0 1 2 2147483651) 1)) 0 (toW Z0 N0 0 0 1 2 2147483651))) 0) 1 0) N0 (litBin .add .u64 (cond (isW Z0 N0 0 0 1 2 2147483652) 0 (cond (!(okS N0 (toW Z0 N0 0 0 1 2 2147483652) 1)) 0 (toW Z0 N0 0 0 1 2 2147483652))) 0) 1 0) N0 0 0 1 1 2147483648) 0 (cond (!(okS N0 (toW (putF (putF (putF (putF Z0 N0 (litBin .add .u64 (cond (isW Z0 N0 0 0 1 2 2147483649) 0 (cond (!(okS N0 (toW Z0 N0 0 0 1 2 2147483649) 1)) 0 (toW Z0 N0 0 0 1 2 2147483649))) 0) 1 7) N0 (litBin .add .u64 (cond (isW Z0 N0 0 0 1 2 2147483650) 0 (cond (!(okS N0 (toW Z0 N0 0 0 1 2 2147483650) 1)) 0 (toW Z0 N0 0 0 1 2 2147483650))) 0) 1 0) N0 (litBin .add .u64 (cond (isW Z0 N0 0 0 1 2 2147483651) 0 (cond (!(okS N0 (toW Z0 N0 0 0 1 2 2147483651) 1)) 0 (toW Z0 N0 0 0 1 2 2147483651))) 0) 1 0) N0 (litBin .add .u64 (cond (isW Z0 N0 0 0 1 2 2147483652) 0 (cond (!(okS N0 (toW Z0 N0 0 0 1 2 2147483652) 1)) 0 (toW Z0 N0 0 0 1 2 2147483652))) 0) 1 0) N0 0 0 1 1 2147483648) 8)) 0 (toW (putF (putF (putF (putF Z0 N0 (litBin .add .u64 (cond (isW Z0 N0 0 0 1 2 2147483649) 0 (cond (!(okS N0 (toW Z0 N0 0 0 1 2 2147483649) 1)) 0 (toW Z0 N0 0 0 1 2 2147483649))) 0) 1 7) N0 (litBin .add .u64 (cond (isW Z0 N0 0 0 1 2 2147483650) 0 (cond (!(okS N0 (toW Z0 N0 0 0 1 2 2147483650) 1)) 0 (toW Z0 N0 0 0 1 2 2147483650))) 0) 1 0) N0 (litBin .add .u64 (cond (isW Z0 N0 0 0 1 2 2147483651) 0 (cond (!(okS N0 (toW Z0 N0 0 0 1 2 2147483651) 1)) 0 (toW Z0 N0 0 0 1 2 2147483651))) 0) 1 0) N0 (litBin .add .u64 (cond (isW Z0 N0 0 0 1 2 2147483652) 0 (cond (!(okS N0 (toW Z0 N0 0 0 1 2 2147483652) 1)) 0 (toW Z0 N0 0 0 1 2 2147483652))) 0) 1 0) N0 0 0 1 1 2147483648))) 7) 1))))))))
def v : Bool := (litCmp .eql (litBin .or .u64 (litBin .or .u64 (litBin .or .u64 (litBin .or .u64 (litBin .or .u64 (litBin .or .u64 (litBin .or .u64 (litBin .or .u64 0 (litBin .shl .u64 (getS (putF (putF (putF (putF Z0 N0 (litBin .add .u64 (cond (isW Z0 N0 0 0 1 2 2147483649) 0 (cond (!(okS N0 (toW Z0 N0 0 0 1 2 2147483649) 1)) 0 (toW Z0 N0 0 0 1 2 2147483649))) 0) 1 7) N0 (litBin .add .u64 (cond (isW Z0 N0 0 0 1 2 2147483650) 0 (cond (!(okS N0 (toW Z0 N0 0 0 1 2 2147483650) 1)) 0 (toW Z0 N0 0 0 1 2 2147483650))) 0) 1 0) N0 (litBin .add .u64 (cond (isW Z0 N0 0 0 1 2 2147483651) 0 (cond (!(okS N0 (toW Z0 N0 0 0 1 2 2147483651) 1)) 0 (toW Z0 N0 0 0 1 2 2147483651))) 0) 1 0) N0 (litBin .add .u64 (cond (isW Z0 N0 0 0 1 2 2147483652) 0 (cond (!(okS N0 (toW Z0 N0 0 0 1 2 2147483652) 1)) 0 (toW Z0 N0 0 0 1 2 2147483652))) 0) 1 0) N0 (litBin .add .u64 (cond (isW (putF (putF (putF (putF Z0 N0 (litBin .add .u64 (cond (isW Z0 N0 0 0 1 2 2147483649) 0 (cond (!(okS N0 (toW Z0 N0 0 0 1 2 2147483649) 1)) 0 (toW Z0 N0 0 0 1 2 2147483649))) 0) 1 7) N0 (litBin .add .u64 (cond (isW Z0 N0 0 0 1 2 2147483650) 0 (cond (!(okS N0 (toW Z0 N0 0 0 1 2 2147483650) 1)) 0 (toW Z0 N0 0 0 1 2 2147483650))) 0) 1 0) N0 (litBin .add .u64 (cond (isW Z0 N0 0 0 1 2 2147483651) 0 (cond (!(okS N0 (toW Z0 N0 0 0 1 2 2147483651) 1)) 0 (toW Z0 N0 0 0 1 2 2147483651))) 0) 1 0) N0 (litBin .add .u64 (cond (isW Z0 N0 0 0 1 2 2147483652) 0 (cond (!(okS N0 (toW Z0 N0 0 0 1 2 2147483652) 1)) 0 (toW Z0 N0 0 0 1 2 2147483652))) 0) 1 0) N0 0 0 1 1 2147483648) 0 (cond (!(okS N0 (toW (putF (putF (putF (putF Z0 N0 (litBin .add .u64 (cond (isW Z0 N0 0 0 1 2 2147483649) 0 (cond (!(okS N0 (toW Z0 N0 0 0 1 2 2147483649) 1)) 0 (toW Z0 N0 0 0 1 2 2147483649))) 0) 1 7) N0 (litBin .add .u64 (cond (isW Z0 N0 0 0 1 2 2147483650) 0 (cond (!(okS N0 (toW Z0 N0 0 0 1 2 2147483650) 1)) 0 (toW Z0 N0 0 0 1 2 2147483650))) 0) 1 0) N0 (litBin .add .u64 (cond (isW Z0 N0 0 0 1 2 2147483651) 0 (cond (!(okS N0 (toW Z0 N0 0 0 1 2 2147483651) 1)) 0 (toW Z0 N0 0 0 1 2 2147483651))) 0) 1 0) N0 (litBin .add .u64 (cond (isW Z0 N0 0 0 1 2 2147483652) 0 (cond (!(okS N0 (toW Z0 N0 0 0 1 2 2147483652) 1)) 0 (toW Z0 N0 0 0 1 2 2147483652))) 0) 1 0) N0 0 0 1 1 2147483648) 8)) 0 (toW (putF (putF (putF (putF Z0 N0 (litBin .add .u64 (cond (isW Z0 N0 0 0 1 2 2147483649) 0 (cond (!(okS N0 (toW Z0 N0 0 0 1 2 2147483649) 1)) 0 (toW Z0 N0 0 0 1 2 2147483649))) 0) 1 7) N0 (litBin .add .u64 (cond (isW Z0 N0 0 0 1 2 2147483650) 0 (cond (!(okS N0 (toW Z0 N0 0 0 1 2 2147483650) 1)) 0 (toW Z0 N0 0 0 1 2 2147483650))) 0) 1 0) N0 (litBin .add .u64 (cond (isW Z0 N0 0 0 1 2 2147483651) 0 (cond (!(okS N0 (toW Z0 N0 0 0 1 2 2147483651) 1)) 0 (toW Z0 N0 0 0 1 2 2147483651))) 0) 1 0) N0 (litBin .add .u64 (cond (isW Z0 N0 0 0 1 2 2147483652) 0 (cond (!(okS N0 (toW Z0 N0 0 0 1 2 2147483652) 1)) 0 (toW Z0 N0 0 0 1 2 2147483652))) 0) 1 0) N0 0 0 1 1 2147483648))) 0) 1) 0)) (litBin .shl .u64 (getS (putF (putF (putF (putF Z0 N0 (litBin .add .u64 (cond (isW Z0 N0 0 0 1 2 2147483649) 0 (cond (!(okS N0 (toW Z0 N0 0 0 1 2 2147483649) 1)) 0 (toW Z0 N0 0 0 1 2 2147483649))) 0) 1 7) N0 (litBin .add .u64 (cond (isW Z0 N0 0 0 1 2 2147483650) 0 (cond (!(okS N0 (toW Z0 N0 0 0 1 2 2147483650) 1)) 0 (toW Z0 N0 0 0 1 2 2147483650))) 0) 1 0) N0 (litBin .add .u64 (cond (isW Z0 N0 0 0 1 2 2147483651) 0 (cond (!(okS N0 (toW Z0 N0 0 0 1 2 2147483651) 1)) 0 (toW Z0 N0 0 0 1 2 2147483651))) 0) 1 0) N0 (litBin .add .u64 (cond (isW Z0 N0 0 0 1 2 2147483652) 0 (cond (!(okS N0 (toW Z0 N0 0 0 1 2 2147483652) 1)) 0 (toW Z0 N0 0 0 1 2 2147483652))) 0) 1 0) N0 (litBin .add .u64 (cond (isW (putF (putF (putF (putF Z0 N0 (litBin .add .u64 (cond (isW Z0 N0 0 0 1 2 2147483649) 0 (cond (!(okS N0 (toW Z0 N0 0 0 1 2 2147483649) 1)) 0 (toW Z0 N0 0 0 1 2 2147483649))) 0) 1 7) N0 (litBin .add .u64 (cond (isW Z0 N0 0 0 1 2 2147483650) 0 (cond (!(okS N0 (toW Z0 N0 0 0 1 2 2147483650) 1)) 0 (toW Z0 N0 0 0 1 2 2147483650))) 0) 1 0) N0 (litBin .add .u64 (cond (isW Z0 N0 0 0 1 2 2147483651) 0 (cond (!(okS N0 (toW Z0 N0 0 0 1 2 2147483651) 1)) 0 (toW Z0 N0 0 0 1 2 2147483651))) 0) 1 0) N0 (litBin .add .u64 (cond (isW Z0 N0 0 0 1 2 2147483652) 0 (cond (!(okS N0 (toW Z0 N0 0 0 1 2 2147483652) 1)) 0 (toW Z0 N0 0 0 1 2 2147483652))) 0) 1 0) N0 0 0 1 1 2147483648) 0 (cond (!(okS N0 (toW (putF (putF (putF (putF Z0 N0 (litBin .add .u64 (cond (isW Z0 N0 0 0 1 2 2147483649) 0 (cond (!(okS N0 (toW Z0 N0 0 0 1 2 2147483649) 1)) 0 (toW Z0 N0 0 0 1 2 2147483649))) 0) 1 7) N0 (litBin .add .u64 (cond (isW Z0 N0 0 0 1 2 2147483650) 0 (cond (!(okS N0 (toW Z0 N0 0 0 1 2 2147483650) 1)) 0 (toW Z0 N0 0 0 1 2 2147483650))) 0) 1 0) N0 (litBin .add .u64 (cond (isW Z0 N0 0 0 1 2 2147483651) 0 (cond (!(okS N0 (toW Z0 N0 0 0 1 2 2147483651) 1)) 0 (toW Z0 N0 0 0 1 2 2147483651))) 0) 1 0) N0 (litBin .add .u64 (cond (isW Z0 N0 0 0 1 2 2147483652) 0 (cond (!(okS N0 (toW Z0 N0 0 0 1 2 2147483652) 1)) 0 (toW Z0 N0 0 0 1 2 2147483652))) 0) 1 0) N0 0 0 1 1 2147483648) 8)) 0 (toW (putF (putF (putF (putF Z0 N0 (litBin .add .u64 (cond (isW Z0 N0 0 0 1 2 2147483649) 0 (cond (!(okS N0 (toW Z0 N0 0 0 1 2 2147483649) 1)) 0 (toW Z0 N0 0 0 1 2 2147483649))) 0) 1 7) N0 (litBin .add .u64 (cond (isW Z0 N0 0 0 1 2 2147483650) 0 (cond (!(okS N0 (toW Z0 N0 0 0 1 2 2147483650) 1)) 0 (toW Z0 N0 0 0 1 2 2147483650))) 0) 1 0) N0 (litBin .add .u64 (cond (isW Z0 N0 0 0 1 2 2147483651) 0 (cond (!(okS N0 (toW Z0 N0 0 0 1 2 2147483651) 1)) 0 (toW Z0 N0 0 0 1 2 2147483651))) 0) 1 0) N0 (litBin .add .u64 (cond (isW Z0 N0 0 0 1 2 2147483652) 0 (cond (!(okS N0 (toW Z0 N0 0 0 1 2 2147483652) 1)) 0 (toW Z0 N0 0 0 1 2 2147483652))) 0) 1 0) N0 0 0 1 1 2147483648))) 1) 1) 8)) (litBin .shl .u64 (getS (putF (putF (putF (putF Z0 N0 (litBin .add .u64 (cond (isW Z0 N0 0 0 1 2 2147483649) 0 (cond (!(okS N0 (toW Z0 N0 0 0 1 2 2147483649) 1)) 0 (toW Z0 N0 0 0 1 2 2147483649))) 0) 1 7) N0 (litBin .add .u64 (cond (isW Z0 N0 0 0 1 2 2147483650) 0 (cond (!(okS N0 (toW Z0 N0 0 0 1 2 2147483650) 1)) 0 (toW Z0 N0 0 0 1 2 2147483650))) 0) 1 0) N0 (litBin .add .u64 (cond (isW Z0 N0 0 0 1 2 2147483651) 0 (cond (!(okS N0 (toW Z0 N0 0 0 1 2 2147483651) 1)) 0 (toW Z0 N0 0 0 1 2 2147483651))) 0) 1 0) N0 (litBin .add .u64 (cond (isW Z0 N0 0 0 1 2 2147483652) 0 (cond (!(okS N0 (toW Z0 N0 0 0 1 2 2147483652) 1)) 0 (toW Z0 N0 0 0 1 2 2147483652))) 0) 1 0) N0 (litBin .add .u64 (cond (isW (putF (putF (putF (putF Z0 N0 (litBin .add .u64 (cond (isW Z0 N0 0 0 1 2 2147483649) 0 (cond (!(okS N0 (toW Z0 N0 0 0 1 2 2147483649) 1)) 0 (toW Z0 N0 0 0 1 2 2147483649))) 0) 1 7) N0 (litBin .add .u64 (cond (isW Z0 N0 0 0 1 2 2147483650) 0 (cond (!(okS N0 (toW Z0 N0 0 0 1 2 2147483650) 1)) 0 (toW Z0 N0 0 0 1 2 2147483650))) 0) 1 0) N0 (litBin .add .u64 (cond (isW Z0 N0 0 0 1 2 2147483651) 0 (cond (!(okS N0 (toW Z0 N0 0 0 1 2 2147483651) 1)) 0 (toW Z0 N0 0 0 1 2 2147483651))) 0) 1 0) N0 (litBin .add .u64 (cond (isW Z0 N0 0 0 1 2 2147483652) 0 (cond (!(okS N0 (toW Z0 N0 0 0 1 2 2147483652) 1)) 0 (toW Z0 N0 0 0 1 2 2147483652))) 0) 1 0) N0 0 0 1 1 2147483648) 0 (cond (!(okS N0 (toW (putF (putF (putF (putF Z0 N0 (litBin .add .u64 (cond (isW Z0 N0 0 0 1 2 2147483649) 0 (cond (!(okS N0 (toW Z0 N0 0 0 1 2 2147483649) 1)) 0 (toW Z0 N0 0 0 1 2 2147483649))) 0) 1 7) N0 (litBin .add .u64 (cond (isW Z0 N0 0 0 1 2 2147483650) 0 (cond (!(okS N0 (toW Z0 N0 0 0 1 2 2147483650) 1)) 0 (toW Z0 N0 0 0 1 2 2147483650))) 0) 1 0) N0 (litBin .add .u64 (cond (isW Z0 N0 0 0 1 2 2147483651) 0 (cond (!(okS N0 (toW Z0 N0 0 0 1 2 2147483651) 1)) 0 (toW Z0 N0 0 0 1 2 2147483651))) 0) 1 0) N0 (litBin .add .u64 (cond (isW Z0 N0 0 0 1 2 2147483652) 0 (cond (!(okS N0 (toW Z0 N0 0 0 1 2 2147483652) 1)) 0 (toW Z0 N0 0 0 1 2 2147483652))) 0) 1 0) N0 0 0 1 1 2147483648) 8)) 0 (toW (putF (putF (putF (putF Z0 N0 (litBin .add .u64 (cond (isW Z0 N0 0 0 1 2 2147483649) 0 (cond (!(okS N0 (toW Z0 N0 0 0 1 2 2147483649) 1)) 0 (toW Z0 N0 0 0 1 2 2147483649))) 0) 1 7) N0 (litBin .add .u64 (cond (isW Z0 N0 0 0 1 2 2147483650) 0 (cond (!(okS N0 (toW Z0 N0 0 0 1 2 2147483650) 1)) 0 (toW Z0 N0 0 0 1 2 2147483650))) 0) 1 0) N0 (litBin .add .u64 (cond (isW Z0 N0 0 0 1 2 2147483651) 0 (cond (!(okS N0 (toW Z0 N0 0 0 1 2 2147483651) 1)) 0 (toW Z0 N0 0 0 1 2 2147483651))) 0) 1 0) N0 (litBin .add .u64 (cond (isW Z0 N0 0 0 1 2 2147483652) 0 (cond (!(okS N0 (toW Z0 N0 0 0 1 2 2147483652) 1)) 0 (toW Z0 N0 0 0 1 2 2147483652))) 0) 1 0) N0 0 0 1 1 2147483648))) 2) 1) 16)) (litBin .shl .u64 (getS (putF (putF (putF (putF Z0 N0 (litBin .add .u64 (cond (isW Z0 N0 0 0 1 2 2147483649) 0 (cond (!(okS N0 (toW Z0 N0 0 0 1 2 2147483649) 1)) 0 (toW Z0 N0 0 0 1 2 2147483649))) 0) 1 7) N0 (litBin .add .u64 (cond (isW Z0 N0 0 0 1 2 2147483650) 0 (cond (!(okS N0 (toW Z0 N0 0 0 1 2 2147483650) 1)) 0 (toW Z0 N0 0 0 1 2 2147483650))) 0) 1 0) N0 (litBin .add .u64 (cond (isW Z0 N0 0 0 1 2 2147483651) 0 (cond (!(okS N0 (toW Z0 N0 0 0 1 2 2147483651) 1)) 0 (toW Z0 N0 0 0 1 2 2147483651))) 0) 1 0) N0 (litBin .add .u64 (cond (isW Z0 N0 0 0 1 2 2147483652) 0 (cond (!(okS N0 (toW Z0 N0 0 0 1 2 2147483652) 1)) 0 (toW Z0 N0 0 0 1 2 2147483652))) 0) 1 0) N0 (litBin .add .u64 (cond (isW (putF (putF (putF (putF Z0 N0 (litBin .add .u64 (cond (isW Z0 N0 0 0 1 2 2147483649) 0 (cond (!(okS N0 (toW Z0 N0 0 0 1 2 2147483649) 1)) 0 (toW Z0 N0 0 0 1 2 2147483649))) 0) 1 7) N0 (litBin .add .u64 (cond (isW Z0 N0 0 0 1 2 2147483650) 0 (cond (!(okS N0 (toW Z0 N0 0 0 1 2 2147483650) 1)) 0 (toW Z0 N0 0 0 1 2 2147483650))) 0) 1 0) N0 (litBin .add .u64 (cond (isW Z0 N0 0 0 1 2 2147483651) 0 (cond (!(okS N0 (toW Z0 N0 0 0 1 2 2147483651) 1)) 0 (toW Z0 N0 0 0 1 2 2147483651))) 0) 1 0) N0 (litBin .add .u64 (cond (isW Z0 N0 0 0 1 2 2147483652) 0 (cond (!(okS N0 (toW Z0 N0 0 0 1 2 2147483652) 1)) 0 (toW Z0 N0 0 0 1 2 2147483652))) 0) 1 0) N0 0 0 1 1 2147483648) 0 (cond (!(okS N0 (toW (putF (putF (putF (putF Z0 N0 (litBin .add .u64 (cond (isW Z0 N0 0 0 1 2 2147483649) 0 (cond (!(okS N0 (toW Z0 N0 0 0 1 2 2147483649) 1)) 0 (toW Z0 N0 0 0 1 2 2147483649))) 0) 1 7) N0 (litBin .add .u64 (cond (isW Z0 N0 0 0 1 2 2147483650) 0 (cond (!(okS N0 (toW Z0 N0 0 0 1 2 2147483650) 1)) 0 (toW Z0 N0 0 0 1 2 2147483650))) 0) 1 0) N0 (litBin .add .u64 (cond (isW Z0 N0 0 0 1 2 2147483651) 0 (cond (!(okS N0 (toW Z0 N0 0 0 1 2 2147483651) 1)) 0 (toW Z0 N0 0 0 1 2 2147483651))) 0) 1 0) N0 (litBin .add .u64 (cond (isW Z0 N0 0 0 1 2 2147483652) 0 (cond (!(okS N0 (toW Z0 N0 0 0 1 2 2147483652) 1)) 0 (toW Z0 N0 0 0 1 2 2147483652))) 0) 1 0) N0 0 0 1 1 2147483648) 8)) 0 (toW (putF (putF (putF (putF Z0 N0 (litBin .add .u64 (cond (isW Z0 N0 0 0 1 2 2147483649) 0 (cond (!(okS N0 (toW Z0 N0 0 0 1 2 2147483649) 1)) 0 (toW Z0 N0 0 0 1 2 2147483649))) 0) 1 7) N0 (litBin .add .u64 (cond (isW Z0 N0 0 0 1 2 2147483650) 0 (cond (!(okS N0 (toW Z0 N0 0 0 1 2 2147483650) 1)) 0 (toW Z0 N0 0 0 1 2 2147483650))) 0) 1 0) N0 (litBin .add .u64 (cond (isW Z0 N0 0 0 1 2 2147483651) 0 (cond (!(okS N0 (toW Z0 N0 0 0 1 2 2147483651) 1)) 0 (toW Z0 N0 0 0 1 2 2147483651))) 0) 1 0) N0 (litBin .add .u64 (cond (isW Z0 N0 0 0 1 2 2147483652) 0 (cond (!(okS N0 (toW Z0 N0 0 0 1 2 2147483652) 1)) 0 (toW Z0 N0 0 0 1 2 2147483652))) 0) 1 0) N0 0 0 1 1 2147483648))) 3) 1) 24)) (litBin .shl .u64 (getS (putF (putF (putF (putF Z0 N0 (litBin .add .u64 (cond (isW Z0 N0 0 0 1 2 2147483649) 0 (cond (!(okS N0 (toW Z0 N0 0 0 1 2 2147483649) 1)) 0 (toW Z0 N0 0 0 1 2 2147483649))) 0) 1 7) N0 (litBin .add .u64 (cond (isW Z0 N0 0 0 1 2 2147483650) 0 (cond (!(okS N0 (toW Z0 N0 0 0 1 2 2147483650) 1)) 0 (toW Z0 N0 0 0 1 2 2147483650))) 0) 1 0) N0 (litBin .add .u64 (cond (isW Z0 N0 0 0 1 2 2147483651) 0 (cond (!(okS N0 (toW Z0 N0 0 0 1 2 2147483651) 1)) 0 (toW Z0 N0 0 0 1 2 2147483651))) 0) 1 0) N0 (litBin .add .u64 (cond (isW Z0 N0 0 0 1 2 2147483652) 0 (cond (!(okS N0 (toW Z0 N0 0 0 1 2 2147483652) 1)) 0 (toW Z0 N0 0 0 1 2 2147483652))) 0) 1 0) N0 (litBin .add .u64 (cond (isW (putF (putF (putF (putF Z0 N0 (litBin .add .u64 (cond (isW Z0 N0 0 0 1 2 2147483649) 0 (cond (!(okS N0 (toW Z0 N0 0 0 1 2 2147483649) 1)) 0 (toW Z0 N0 0 0 1 2 2147483649))) 0) 1 7) N0 (litBin .add .u64 (cond (isW Z0 N0 0 0 1 2 2147483650) 0 (cond (!(okS N0 (toW Z0 N0 0 0 1 2 2147483650) 1)) 0 (toW Z0 N0 0 0 1 2 2147483650))) 0) 1 0) N0 (litBin .add .u64 (cond (isW Z0 N0 0 0 1 2 2147483651) 0 (cond (!(okS N0 (toW Z0 N0 0 0 1 2 2147483651) 1)) 0 (toW Z0 N0 0 0 1 2 2147483651))) 0) 1 0) N0 (litBin .add .u64 (cond (isW Z0 N0 0 0 1 2 2147483652) 0 (cond (!(okS N0 (toW Z0 N0 0 0 1 2 2147483652) 1)) 0 (toW Z0 N0 0 0 1 2 2147483652))) 0) 1 0) N0 0 0 1 1 2147483648) 0 (cond (!(okS N0 (toW (putF (putF (putF (putF Z0 N0 (litBin .add .u64 (cond (isW Z0 N0 0 0 1 2 2147483649) 0 (cond (!(okS N0 (toW Z0 N0 0 0 1 2 2147483649) 1)) 0 (toW Z0 N0 0 0 1 2 2147483649))) 0) 1 7) N0 (litBin .add .u64 (cond (isW Z0 N0 0 0 1 2 2147483650) 0 (cond (!(okS N0 (toW Z0 N0 0 0 1 2 2147483650) 1)) 0 (toW Z0 N0 0 0 1 2 2147483650))) 0) 1 0) N0 (litBin .add .u64 (cond (isW Z0 N0 0 0 1 2 2147483651) 0 (cond (!(okS N0 (toW Z0 N0 0 0 1 2 2147483651) 1)) 0 (toW Z0 N0 0 0 1 2 2147483651))) 0) 1 0) N0 (litBin .add .u64 (cond (isW Z0 N0 0 0 1 2 2147483652) 0 (cond (!(okS N0 (toW Z0 N0 0 0 1 2 2147483652) 1)) 0 (toW Z0 N0 0 0 1 2 2147483652))) 0) 1 0) N0 0 0 1 1 2147483648) 8)) 0 (toW (putF (putF (putF (putF Z0 N0 (litBin .add .u64 (cond (isW Z0 N0 0 0 1 2 2147483649) 0 (cond (!(okS N0 (toW Z0 N0 0 0 1 2 2147483649) 1)) 0 (toW Z0 N0 0 0 1 2 2147483649))) 0) 1 7) N0 (litBin .add .u64 (cond (isW Z0 N0 0 0 1 2 2147483650) 0 (cond (!(okS N0 (toW Z0 N0 0 0 1 2 2147483650) 1)) 0 (toW Z0 N0 0 0 1 2 2147483650))) 0) 1 0) N0 (litBin .add .u64 (cond (isW Z0 N0 0 0 1 2 2147483651) 0 (cond (!(okS N0 (toW Z0 N0 0 0 1 2 2147483651) 1)) 0 (toW Z0 N0 0 0 1 2 2147483651))) 0) 1 0) N0 (litBin .add .u64 (cond (isW Z0 N0 0 0 1 2 2147483652) 0 (cond (!(okS N0 (toW Z0 N0 0 0 1 2 2147483652) 1)) 0 (toW Z0 N0 0 0 1 2 2147483652))) 0) 1 0) N0 0 0 1 1 2147483648))) 4) 1) 32)) (litBin .shl .u64 (getS (putF (putF (putF (putF Z0 N0 (litBin .add .u64 (cond (isW Z0 N0 0 0 1 2 2147483649) 0 (cond (!(okS N0 (toW Z0 N0 0 0 1 2 2147483649) 1)) 0 (toW Z0 N0 0 0 1 2 2147483649))) 0) 1 7) N0 (litBin .add .u64 (cond (isW Z0 N0 0 0 1 2 2147483650) 0 (cond (!(okS N0 (toW Z0 N0 0 0 1 2 2147483650) 1)) 0 (toW Z0 N0 0 0 1 2 2147483650))) 0) 1 0) N0 (litBin .add .u64 (cond (isW Z0 N0 0 0 1 2 2147483651) 0 (cond (!(okS N0 (toW Z0 N0 0 0 1 2 2147483651) 1)) 0 (toW Z0 N0 0 0 1 2 2147483651))) 0) 1 0) N0 (litBin .add .u64 (cond (isW Z0 N0 0 0 1 2 2147483652) 0 (cond (!(okS N0 (toW Z0 N0 0 0 1 2 2147483652) 1)) 0 (toW Z0 N0 0 0 1 2 2147483652))) 0) 1 0) N0 (litBin .add .u64 (cond (isW (putF (putF (putF (putF Z0 N0 (litBin .add .u64 (cond (isW Z0 N0 0 0 1 2 2147483649) 0 (cond (!(okS N0 (toW Z0 N0 0 0 1 2 2147483649) 1)) 0 (toW Z0 N0 0 0 1 2 2147483649))) 0) 1 7) N0 (litBin .add .u64 (cond (isW Z0 N0 0 0 1 2 2147483650) 0 (cond (!(okS N0 (toW Z0 N0 0 0 1 2 2147483650) 1)) 0 (toW Z0 N0 0 0 1 2 2147483650))) 0) 1 0) N0 (litBin .add .u64 (cond (isW Z0 N0 0 0 1 2 2147483651) 0 (cond (!(okS N0 (toW Z0 N0 0 0 1 2 2147483651) 1)) 0 (toW Z0 N0 0 0 1 2 2147483651))) 0) 1 0) N0 (litBin .add .u64 (cond (isW Z0 N0 0 0 1 2 2147483652) 0 (cond (!(okS N0 (toW Z0 N0 0 0 1 2 2147483652) 1)) 0 (toW Z0 N0 0 0 1 2 2147483652))) 0) 1 0) N0 0 0 1 1 2147483648) 0 (cond (!(okS N0 (toW (putF (putF (putF (putF Z0 N0 (litBin .add .u64 (cond (isW Z0 N0 0 0 1 2 2147483649) 0 (cond (!(okS N0 (toW Z0 N0 0 0 1 2 2147483649) 1)) 0 (toW Z0 N0 0 0 1 2 2147483649))) 0) 1 7) N0 (litBin .add .u64 (cond (isW Z0 N0 0 0 1 2 2147483650) 0 (cond (!(okS N0 (toW Z0 N0 0 0 1 2 2147483650) 1)) 0 (toW Z0 N0 0 0 1 2 2147483650))) 0) 1 0) N0 (litBin .add .u64 (cond (isW Z0 N0 0 0 1 2 2147483651) 0 (cond (!(okS N0 (toW Z0 N0 0 0 1 2 2147483651) 1)) 0 (toW Z0 N0 0 0 1 2 2147483651))) 0) 1 0) N0 (litBin .add .u64 (cond (isW Z0 N0 0 0 1 2 2147483652) 0 (cond (!(okS N0 (toW Z0 N0 0 0 1 2 2147483652) 1)) 0 (toW Z0 N0 0 0 1 2 2147483652))) 0) 1 0) N0 0 0 1 1 2147483648) 8)) 0 (toW (putF (putF (putF (putF Z0 N0 (litBin .add .u64 (cond (isW Z0 N0 0 0 1 2 2147483649) 0 (cond (!(okS N0 (toW Z0 N0 0 0 1 2 2147483649) 1)) 0 (toW Z0 N0 0 0 1 2 2147483649))) 0) 1 7) N0 (litBin .add .u64 (cond (isW Z0 N0 0 0 1 2 2147483650) 0 (cond (!(okS N0 (toW Z0 N0 0 0 1 2 2147483650) 1)) 0 (toW Z0 N0 0 0 1 2 2147483650))) 0) 1 0) N0 (litBin .add .u64 (cond (isW Z0 N0 0 0 1 2 2147483651) 0 (cond (!(okS N0 (toW Z0 N0 0 0 1 2 2147483651) 1)) 0 (toW Z0 N0 0 0 1 2 2147483651))) 0) 1 0) N0 (litBin .add .u64 (cond (isW Z0 N0 0 0 1 2 2147483652) 0 (cond (!(okS N0 (toW Z0 N0 0 0 1 2 2147483652) 1)) 0 (toW Z0 N0 0 0 1 2 2147483652))) 0) 1 0) N0 0 0 1 1 2147483648))) 5) 1) 40)) (litBin .shl .u64 (getS (putF (putF (putF (putF Z0 N0 (litBin .add .u64 (cond (isW Z0 N0 0 0 1 2 2147483649) 0 (cond (!(okS N0 (toW Z0 N0 0 0 1 2 2147483649) 1)) 0 (toW Z0 N0 0 0 1 2 2147483649))) 0) 1 7) N0 (litBin .add .u64 (cond (isW Z0 N0 0 0 1 2 2147483650) 0 (cond (!(okS N0 (toW Z0 N0 0 0 1 2 2147483650) 1)) 0 (toW Z0 N0 0 0 1 2 2147483650))) 0) 1 0) N0 (litBin .add .u64 (cond (isW Z0 N0 0 0 1 2 2147483651) 0 (cond (!(okS N0 (toW Z0 N0 0 0 1 2 2147483651) 1)) 0 (toW Z0 N0 0 0 1 2 2147483651))) 0) 1 0) N0 (litBin .add .u64 (cond (isW Z0 N0 0 0 1 2 2147483652) 0 (cond (!(okS N0 (toW Z0 N0 0 0 1 2 2147483652) 1)) 0 (toW Z0 N0 0 0 1 2 2147483652))) 0) 1 0) N0 (litBin .add .u64 (cond (isW (putF (putF (putF (putF Z0 N0 (litBin .add .u64 (cond (isW Z0 N0 0 0 1 2 2147483649) 0 (cond (!(okS N0 (toW Z0 N0 0 0 1 2 2147483649) 1)) 0 (toW Z0 N0 0 0 1 2 2147483649))) 0) 1 7) N0 (litBin .add .u64 (cond (isW Z0 N0 0 0 1 2 2147483650) 0 (cond (!(okS N0 (toW Z0 N0 0 0 1 2 2147483650) 1)) 0 (toW Z0 N0 0 0 1 2 2147483650))) 0) 1 0) N0 (litBin .add .u64 (cond (isW Z0 N0 0 0 1 2 2147483651) 0 (cond (!(okS N0 (toW Z0 N0 0 0 1 2 2147483651) 1)) 0 (toW Z0 N0 0 0 1 2 2147483651))) 0) 1 0) N0 (litBin .add .u64 (cond (isW Z0 N0 0 0 1 2 2147483652) 0 (cond (!(okS N0 (toW Z0 N0 0 0 1 2 2147483652) 1)) 0 (toW Z0 N0 0 0 1 2 2147483652))) 0) 1 0) N0 0 0 1 1 2147483648) 0 (cond (!(okS N0 (toW (putF (putF (putF (putF Z0 N0 (litBin .add .u64 (cond (isW Z0 N0 0 0 1 2 2147483649) 0 (cond (!(okS N0 (toW Z0 N0 0 0 1 2 2147483649) 1)) 0 (toW Z0 N0 0 0 1 2 2147483649))) 0) 1 7) N0 (litBin .add .u64 (cond (isW Z0 N0 0 0 1 2 2147483650) 0 (cond (!(okS N0 (toW Z0 N0 0 0 1 2 2147483650) 1)) 0 (toW Z0 N0 0 0 1 2 2147483650))) 0) 1 0) N0 (litBin .add .u64 (cond (isW Z0 N0 0 0 1 2 2147483651) 0 (cond (!(okS N0 (toW Z0 N0 0 0 1 2 2147483651) 1)) 0 (toW Z0 N0 0 0 1 2 2147483651))) 0) 1 0) N0 (litBin .add .u64 (cond (isW Z0 N0 0 0 1 2 2147483652) 0 (cond (!(okS N0 (toW Z0 N0 0 0 1 2 2147483652) 1)) 0 (toW Z0 N0 0 0 1 2 2147483652))) 0) 1 0) N0 0 0 1 1 2147483648) 8)) 0 (toW (putF (putF (putF (putF Z0 N0 (litBin .add .u64 (cond (isW Z0 N0 0 0 1 2 2147483649) 0 (cond (!(okS N0 (toW Z0 N0 0 0 1 2 2147483649) 1)) 0 (toW Z0 N0 0 0 1 2 2147483649))) 0) 1 7) N0 (litBin .add .u64 (cond (isW Z0 N0 0 0 1 2 2147483650) 0 (cond (!(okS N0 (toW Z0 N0 0 0 1 2 2147483650) 1)) 0 (toW Z0 N0 0 0 1 2 2147483650))) 0) 1 0) N0 (litBin .add .u64 (cond (isW Z0 N0 0 0 1 2 2147483651) 0 (cond (!(okS N0 (toW Z0 N0 0 0 1 2 2147483651) 1)) 0 (toW Z0 N0 0 0 1 2 2147483651))) 0) 1 0) N0 (litBin .add .u64 (cond (isW Z0 N0 0 0 1 2 2147483652) 0 (cond (!(okS N0 (toW Z0 N0 0 0 1 2 2147483652) 1)) 0 (toW Z0 N0 0 0 1 2 2147483652))) 0) 1 0) N0 0 0 1 1 2147483648))) 6) 1) 48)) (litBin .shl .u64 (getS (putF (putF (putF (putF Z0 N0 (litBin .add .u64 (cond (isW Z0 N0 0 0 1 2 2147483649) 0 (cond (!(okS N0 (toW Z0 N0 0 0 1 2 2147483649) 1)) 0 (toW Z0 N0 0 0 1 2 2147483649))) 0) 1 7) N0 (litBin .add .u64 (cond (isW Z0 N0 0 0 1 2 2147483650) 0 (cond (!(okS N0 (toW Z0 N0 0 0 1 2 2147483650) 1)) 0 (toW Z0 N0 0 0 1 2 2147483650))) 0) 1 0) N0 (litBin .add .u64 (cond (isW Z0 N0 0 0 1 2 2147483651) 0 (cond (!(okS N0 (toW Z0 N0 0 0 1 2 2147483651) 1)) 0 (toW Z0 N0 0 0 1 2 2147483651))) 0) 1 0) N0 (litBin .add .u64 (cond (isW Z0 N0 0 0 1 2 2147483652) 0 (cond (!(okS N0 (toW Z0 N0 0 0 1 2 2147483652) 1)) 0 (toW Z0 N0 0 0 1 2 2147483652))) 0) 1 0) N0 (litBin .add .u64 (cond (isW (putF (putF (putF (putF Z0 N0 (litBin .add .u64 (cond (isW Z0 N0 0 0 1 2 2147483649) 0 (cond (!(okS N0 (toW Z0 N0 0 0 1 2 2147483649) 1)) 0 (toW Z0 N0 0 0 1 2 2147483649))) 0) 1 7) N0 (litBin .add .u64 (cond (isW Z0 N0 0 0 1 2 2147483650) 0 (cond (!(okS N0 (toW Z0 N0 0 0 1 2 2147483650) 1)) 0 (toW Z0 N0 0 0 1 2 2147483650))) 0) 1 0) N0 (litBin .add .u64 (cond (isW Z0 N0 0 0 1 2 2147483651) 0 (cond (!(okS N0 (toW Z0 N0 0 0 1 2 2147483651) 1)) 0 (toW Z0 N0 0 0 1 2 2147483651))) 0) 1 0) N0 (litBin .add .u64 (cond (isW Z0 N0 0 0 1 2 2147483652) 0 (cond (!(okS N0 (toW Z0 N0 0 0 1 2 2147483652) 1)) 0 (toW Z0 N0 0 0 1 2 2147483652))) 0) 1 0) N0 0 0 1 1 2147483648) 0 (cond (!(okS N0 (toW (putF (putF (putF (putF Z0 N0 (litBin .add .u64 (cond (isW Z0 N0 0 0 1 2 2147483649) 0 (cond (!(okS N0 (toW Z0 N0 0 0 1 2 2147483649) 1)) 0 (toW Z0 N0 0 0 1 2 2147483649))) 0) 1 7) N0 (litBin .add .u64 (cond (isW Z0 N0 0 0 1 2 2147483650) 0 (cond (!(okS N0 (toW Z0 N0 0 0 1 2 2147483650) 1)) 0 (toW Z0 N0 0 0 1 2 2147483650))) 0) 1 0) N0 (litBin .add .u64 (cond (isW Z0 N0 0 0 1 2 2147483651) 0 (cond (!(okS N0 (toW Z0 N0 0 0 1 2 2147483651) 1)) 0 (toW Z0 N0 0 0 1 2 2147483651))) 0) 1 0) N0 (litBin .add .u64 (cond (isW Z0 N0 0 0 1 2 2147483652) 0 (cond (!(okS N0 (toW Z0 N0 0 0 1 2 2147483652) 1)) 0 (toW Z0 N0 0 0 1 2 2147483652))) 0) 1 0) N0 0 0 1 1 2147483648) 8)) 0 (toW (putF (putF (putF (putF Z0 N0 (litBin .add .u64 (cond (isW Z0 N0 0 0 1 2 2147483649) 0 (cond (!(okS N0 (toW Z0 N0 0 0 1 2 2147483649) 1)) 0 (toW Z0 N0 0 0 1 2 2147483649))) 0) 1 7) N0 (litBin .add .u64 (cond (isW Z0 N0 0 0 1 2 2147483650) 0 (cond (!(okS N0 (toW Z0 N0 0 0 1 2 2147483650) 1)) 0 (toW Z0 N0 0 0 1 2 2147483650))) 0) 1 0) N0 (litBin .add .u64 (cond (isW Z0 N0 0 0 1 2 2147483651) 0 (cond (!(okS N0 (toW Z0 N0 0 0 1 2 2147483651) 1)) 0 (toW Z0 N0 0 0 1 2 2147483651))) 0) 1 0) N0 (litBin .add .u64 (cond (isW Z0 N0 0 0 1 2 2147483652) 0 (cond (!(okS N0 (toW Z0 N0 0 0 1 2 2147483652) 1)) 0 (toW Z0 N0 0 0 1 2 2147483652))) 0) 1 0) N0 0 0 1 1 2147483648))) 7) 1) 56)) 1792)
set_option maxRecDepth 100000 in
theorem road : ((call Try.prog cxl 400 72 [] []).route [true, true, false, true, false, true, false, true, false, true, true, false, true]).map (fun p => (p.1, p.2.1)) = some ([t0, t1, t2, t3, t4, t5, t6, t7, t8, t9, t10, t11, t12], .val (.bool (.sym v))) := by kernel_rfl
theorem t0_eq : t0 = true := by
  unfold t0
  decide +kernel
theorem t1_eq : t1 = true := by
  unfold t1
  simp only [isW0, toW0, ok1.1, ok1.2.1, ok1.2.2.1, ok1.2.2.2.1, ok1.2.2.2.2, cond_true, cond_false, Bool.not_true, Bool.not_false]
  repeat' (with_reducible refine Bool.and_eq_true_iff.mpr ⟨?_, ?_⟩)
  all_goals first
    | exact aW (by repeat (first | exact mz | apply MemOk.put)) _ (by first | exact inU.add _ _ | (unfold inU; omega))
    | exact aP _ _ (by first | exact inU.add _ _ | (unfold inU; omega)) (by unfold inI; omega)
    | exact aM (by repeat (first | exact mz | apply MemOk.put)) _ _ (by first | exact inU.add _ _ | (unfold inU; omega)) (by unfold inI; omega)
    | exact yes_of (by unfold inU; omega)
theorem t2_eq : t2 = false := by
  unfold t2
  simp only [isW0, toW0, ok1.1, ok1.2.1, ok1.2.2.1, ok1.2.2.2.1, ok1.2.2.2.2, cond_true, cond_false, Bool.not_true, Bool.not_false]
theorem t3_eq : t3 = true := by
  unfold t3
  simp only [isW0, toW0, ok1.1, ok1.2.1, ok1.2.2.1, ok1.2.2.2.1, ok1.2.2.2.2, cond_true, cond_false, Bool.not_true, Bool.not_false]
  repeat' (with_reducible refine Bool.and_eq_true_iff.mpr ⟨?_, ?_⟩)
  all_goals first
    | exact aW (by repeat (first | exact mz | apply MemOk.put)) _ (by first | exact inU.add _ _ | (unfold inU; omega))
    | exact aP _ _ (by first | exact inU.add _ _ | (unfold inU; omega)) (by unfold inI; omega)
    | exact aM (by repeat (first | exact mz | apply MemOk.put)) _ _ (by first | exact inU.add _ _ | (unfold inU; omega)) (by unfold inI; omega)
    | exact yes_of (by unfold inU; omega)
theorem t4_eq : t4 = false := by
  unfold t4
  simp only [isW0, toW0, ok1.1, ok1.2.1, ok1.2.2.1, ok1.2.2.2.1, ok1.2.2.2.2, cond_true, cond_false, Bool.not_true, Bool.not_false]
theorem t5_eq : t5 = true := by
  unfold t5
  simp only [isW0, toW0, ok1.1, ok1.2.1, ok1.2.2.1, ok1.2.2.2.1, ok1.2.2.2.2, cond_true, cond_false, Bool.not_true, Bool.not_false]
  repeat' (with_reducible refine Bool.and_eq_true_iff.mpr ⟨?_, ?_⟩)
  all_goals first
    | exact aW (by repeat (first | exact mz | apply MemOk.put)) _ (by first | exact inU.add _ _ | (unfold inU; omega))
    | exact aP _ _ (by first | exact inU.add _ _ | (unfold inU; omega)) (by unfold inI; omega)
    | exact aM (by repeat (first | exact mz | apply MemOk.put)) _ _ (by first | exact inU.add _ _ | (unfold inU; omega)) (by unfold inI; omega)
    | exact yes_of (by unfold inU; omega)
theorem t6_eq : t6 = false := by
  unfold t6
  simp only [isW0, toW0, ok1.1, ok1.2.1, ok1.2.2.1, ok1.2.2.2.1, ok1.2.2.2.2, cond_true, cond_false, Bool.not_true, Bool.not_false]
theorem t7_eq : t7 = true := by
  unfold t7
  simp only [isW0, toW0, ok1.1, ok1.2.1, ok1.2.2.1, ok1.2.2.2.1, ok1.2.2.2.2, cond_true, cond_false, Bool.not_true, Bool.not_false]
  repeat' (with_reducible refine Bool.and_eq_true_iff.mpr ⟨?_, ?_⟩)
  all_goals first
    | exact aW (by repeat (first | exact mz | apply MemOk.put)) _ (by first | exact inU.add _ _ | (unfold inU; omega))
    | exact aP _ _ (by first | exact inU.add _ _ | (unfold inU; omega)) (by unfold inI; omega)
    | exact aM (by repeat (first | exact mz | apply MemOk.put)) _ _ (by first | exact inU.add _ _ | (unfold inU; omega)) (by unfold inI; omega)
    | exact yes_of (by unfold inU; omega)
theorem t8_eq : t8 = false := by
  unfold t8
  simp only [isW0, toW0, ok1.1, ok1.2.1, ok1.2.2.1, ok1.2.2.2.1, ok1.2.2.2.2, cond_true, cond_false, Bool.not_true, Bool.not_false]
theorem t9_eq : t9 = true := by
  unfold t9
  simp only [isW0, toW0, ok1.1, ok1.2.1, ok1.2.2.1, ok1.2.2.2.1, ok1.2.2.2.2, cond_true, cond_false, Bool.not_true, Bool.not_false]
  repeat' (with_reducible refine Bool.and_eq_true_iff.mpr ⟨?_, ?_⟩)
  all_goals first
    | exact aW (by repeat (first | exact mz | apply MemOk.put)) _ (by first | exact inU.add _ _ | (unfold inU; omega))
    | exact aP _ _ (by first | exact inU.add _ _ | (unfold inU; omega)) (by unfold inI; omega)
    | exact aM (by repeat (first | exact mz | apply MemOk.put)) _ _ (by first | exact inU.add _ _ | (unfold inU; omega)) (by unfold inI; omega)
    | exact yes_of (by unfold inU; omega)
theorem t10_eq : t10 = true := by
  unfold t10
  simp only [isW0, toW0, ok1.1, ok1.2.1, ok1.2.2.1, ok1.2.2.2.1, ok1.2.2.2.2, cond_true, cond_false, Bool.not_true, Bool.not_false]
  repeat' (with_reducible refine Bool.and_eq_true_iff.mpr ⟨?_, ?_⟩)
  all_goals first
    | exact aW (by repeat (first | exact mz | apply MemOk.put)) _ (by first | exact inU.add _ _ | (unfold inU; omega))
    | exact aP _ _ (by first | exact inU.add _ _ | (unfold inU; omega)) (by unfold inI; omega)
    | exact aM (by repeat (first | exact mz | apply MemOk.put)) _ _ (by first | exact inU.add _ _ | (unfold inU; omega)) (by unfold inI; omega)
    | exact yes_of (by unfold inU; omega)
theorem t11_eq : t11 = false := by
  unfold t11
  simp only [isW0, toW0, ok1.1, ok1.2.1, ok1.2.2.1, ok1.2.2.2.1, ok1.2.2.2.2, cond_true, cond_false, Bool.not_true, Bool.not_false]
theorem t12_eq : t12 = true := by
  unfold t12
  simp only [isW0, toW0, ok1.1, ok1.2.1, ok1.2.2.1, ok1.2.2.2.1, ok1.2.2.2.2, cond_true, cond_false, Bool.not_true, Bool.not_false]
  repeat' (with_reducible refine Bool.and_eq_true_iff.mpr ⟨?_, ?_⟩)
  all_goals first
    | exact aW (by repeat (first | exact mz | apply MemOk.put)) _ (by first | exact inU.add _ _ | (unfold inU; omega))
    | exact aP _ _ (by first | exact inU.add _ _ | (unfold inU; omega)) (by unfold inI; omega)
    | exact aM (by repeat (first | exact mz | apply MemOk.put)) _ _ (by first | exact inU.add _ _ | (unfold inU; omega)) (by unfold inI; omega)
    | exact yes_of (by unfold inU; omega)
theorem v_eq : v = true := by
  unfold v
  simp only [isW0, toW0, ok1.1, ok1.2.1, ok1.2.2.1, ok1.2.2.2.1, ok1.2.2.2.2, cond_true, cond_false, Bool.not_true, Bool.not_false]
  decide +kernel
end Shown72
noncomputable def cxs : Cx DC := cxl.sum 72 gTrue
theorem cxs_ok : Ok Try.prog cxs := cxl_ok.sum (by kernel_rfl) fun args h t r ht hp => gTrue_ok cxl_ok Shown72.road (by
  rw [Shown72.t0_eq, Shown72.t1_eq, Shown72.t2_eq, Shown72.t3_eq, Shown72.t4_eq, Shown72.t5_eq, Shown72.t6_eq, Shown72.t7_eq, Shown72.t8_eq, Shown72.t9_eq, Shown72.t10_eq, Shown72.t11_eq, Shown72.t12_eq]) Shown72.v_eq ht hp
end Go.Proofs.Ytngcbpcfgolifaa.Ev

namespace Go.Proofs.Ytngcbpcfgolifaa.Ev
open Go.RowKit
set_option linter.unusedVariables false
set_option linter.unusedSimpArgs false
namespace Both73
def sl (i : TV) : List TV := [.skip, .num .i64 (-1), .ptr 3 0, .skip, .ptr 4 0, .skip, .skip, .skip, .ptr 6 0, .skip, .ptr 8 0, .skip, i] ++ List.replicate 85 .skip
def hp : List TO := [.rows 0 [.int .u32, .int .u64], .cells 118 [.int .u8, .slice 0 0 .any], .cells 120 [.int .u8, .int .u64, .int .u64, .int .u64, .int .u64, .int .u64, .int .u64, .int .u64, .int .u64, .int .u64, .int .u64, .int .u64, .int .u64, .int .i64, .int .i64, .int .u64, .int .u64, .int .u8], .cells 118 [.int .u8, .slice 0 0 .any], .cells 122 [.nilptr, .nilptr], .arr 5 [.int .u8], tMem 156 5, .arr 5 [.int .u8], tMem 63 7]
def tm : Tmpl := { slots := sl (.int .i64), heap := hp }
def tm' : Tmpl := { slots := sl .skip, heap := hp }
def g0 (i : Int) (n' : Nat) : Bool := cond (litCmp .lss i ((n' : Nat) : Int)) (litCmp .lss i 64) false
def b0 (i : Int) (n' : Nat) : Bool := decide (0 ≤ i ∧ i < ((n' : Nat) : Int))
def b1 (i : Int) (n : Nat) : Bool := decide ((Int.toNat i) < n)
noncomputable def g1 (i pg o0 o1 o2 o3 o4 o5 o6 o7 o8 o9 o10 o11 o12 o13 o14 o15 o16 o17 : Int) (n n' N L C N2 L2 C2 : Nat) (A X F G : Nat → Int) : Bool := ((b0 i n') && (b1 i n)) && (((b0 i n') && ((b1 i n) && (askM L C N F (atE (A (Int.toNat i))) 8 && yes (inU (X (Int.toNat i)))))) && ((b0 i n') && ((b1 i n) && (askM L2 C2 N2 G (atE (A (Int.toNat i))) 8 && yes (inU (X (Int.toNat i)))))))
set_option maxRecDepth 100000 in
theorem goes (i pg o0 o1 o2 o3 o4 o5 o6 o7 o8 o9 o10 o11 o12 o13 o14 o15 o16 o17 : Int) (n n' N L C N2 L2 C2 : Nat) (A X F G : Nat → Int) : (viewT tm 9 (fun _ => [0, 1, 2, 3, 4, 5, 6, 7, 8]) (tm.fill ⟨[i, pg, o0, o1, o2, o3, o4, o5, o6, o7, o8, o9, o10, o11, o12, o13, o14, o15, o16, o17, pg], [], [n, n', n', N, L, C, N2, L2, C2], [A, X, F, G]⟩) (ev Try.prog cxs 73 400 (.code (loopAt Try.prog 73 0)) (tm.fill ⟨[i, pg, o0, o1, o2, o3, o4, o5, o6, o7, o8, o9, o10, o11, o12, o13, o14, o15, o16, o17, pg], [], [n, n', n', N, L, C, N2, L2, C2], [A, X, F, G]⟩))).route [true, true] =
    some ([g0 i n', g1 i pg o0 o1 o2 o3 o4 o5 o6 o7 o8 o9 o10 o11 o12 o13 o14 o15 o16 o17 n n' N L C N2 L2 C2 A X F G], (.normal, some ⟨[litBin .add .i64 i 1, pg, o0, o1, o2, o3, o4, o5, o6, o7, o8, o9, o10, o11, o12, o13, o14, o15, o16, o17, pg], [], [n, n', n', N, L, C, N2, L2, C2], [A, X, putF F N (atE (A (Int.toNat i))) 8 (X (Int.toNat i)), putF G N2 (atE (A (Int.toNat i))) 8 (X (Int.toNat i))]⟩)) := by kernel_rfl
set_option maxRecDepth 100000 in
theorem ends (i pg o0 o1 o2 o3 o4 o5 o6 o7 o8 o9 o10 o11 o12 o13 o14 o15 o16 o17 : Int) (n n' N L C N2 L2 C2 : Nat) (A X F G : Nat → Int) : (viewT tm 9 (fun _ => [0, 1, 2, 3, 4, 5, 6, 7, 8]) (tm.fill ⟨[i, pg, o0, o1, o2, o3, o4, o5, o6, o7, o8, o9, o10, o11, o12, o13, o14, o15, o16, o17, pg], [], [n, n', n', N, L, C, N2, L2, C2], [A, X, F, G]⟩) (ev Try.prog cxs 73 400 (.code (loopAt Try.prog 73 0)) (tm.fill ⟨[i, pg, o0, o1, o2, o3, o4, o5, o6, o7, o8, o9, o10, o11, o12, o13, o14, o15, o16, o17, pg], [], [n, n', n', N, L, C, N2, L2, C2], [A, X, F, G]⟩))).route [false] =
    some ([g0 i n'], (.exit 0, some ⟨[i, pg, o0, o1, o2, o3, o4, o5, o6, o7, o8, o9, o10, o11, o12, o13, o14, o15, o16, o17, pg], [], [n, n', n', N, L, C, N2, L2, C2], [A, X, F, G]⟩)) := by kernel_rfl
def I (e0 e : Env DC) : Prop := ∃ (pg o0 o1 o2 o3 o4 o5 o6 o7 o8 o9 o10 o11 o12 o13 o14 o15 o16 o17 : Int) (n N q : Nat) (A X F : Nat → Int), e0 = ⟨[0, pg, o0, o1, o2, o3, o4, o5, o6, o7, o8, o9, o10, o11, o12, o13, o14, o15, o16, o17, pg], [], [n, n, n, N, N, N, N, N, N], [A, X, F, F]⟩ ∧ e = ⟨[(q : Int), pg, o0, o1, o2, o3, o4, o5, o6, o7, o8, o9, o10, o11, o12, o13, o14, o15, o16, o17, pg], [], [n, n, n, N, N, N, N, N, N], [A, X, memL F A X N q, memL F A X N q]⟩ ∧ MemOk N F ∧ (∀ j, j < n → inU (X j)) ∧ q ≤ n ∧ q ≤ 64
def Fn (e0 e : Env DC) : Prop := ∃ (pg o0 o1 o2 o3 o4 o5 o6 o7 o8 o9 o10 o11 o12 o13 o14 o15 o16 o17 : Int) (n N q : Nat) (A X F : Nat → Int), e0 = ⟨[0, pg, o0, o1, o2, o3, o4, o5, o6, o7, o8, o9, o10, o11, o12, o13, o14, o15, o16, o17, pg], [], [n, n, n, N, N, N, N, N, N], [A, X, F, F]⟩ ∧ e = ⟨[(q : Int), pg, o0, o1, o2, o3, o4, o5, o6, o7, o8, o9, o10, o11, o12, o13, o14, o15, o16, o17, pg], [], [n, n, n, N, N, N, N, N, N], [A, X, memL F A X N (min n 64), memL F A X N (min n 64)]⟩
def fin (e : Env DC) : Nat → Int := memL (e.f.getD 2 (fun _ => 0)) (e.f.getD 0 (fun _ => 0)) (e.f.getD 1 (fun _ => 0)) (e.n.getD 3 0) (min (e.n.getD 0 0) 64)
def res (e : Env DC) : Env DC := ⟨e.i.tail, [], e.n, [e.f.getD 0 (fun _ => 0), e.f.getD 1 (fun _ => 0), fin e, fin e]⟩
noncomputable def ask (e : Env DC) : Bool := yes (I e e)
noncomputable def X : Cx DC := cxs.block 73 0 (loopSumF (D := DC) tm tm' 9 [0, 1, 2, 3, 4, 5, 6, 7, 8] ask res)
theorem round (e0 e : Env DC) (h : I e0 e) : RoundT (I e0) (fun e => (65 - (e.i.getD 0 0)).toNat) (Fn e0) 0 e (viewT tm 9 (fun _ => [0, 1, 2, 3, 4, 5, 6, 7, 8]) (tm.fill e) (ev Try.prog cxs 73 400 (.code (loopAt Try.prog 73 0)) (tm.fill e))) := by
  obtain ⟨pg, o0, o1, o2, o3, o4, o5, o6, o7, o8, o9, o10, o11, o12, o13, o14, o15, o16, o17, n, N, q, A, X, F, rfl, rfl, hm, hX, hq, hq2⟩ := h
  by_cases hlt : q < n ∧ q < 64
  · have hadd : litBin .add .i64 (q : Int) 1 = ((q + 1 : Nat) : Int) := by rw [addi]; omega
    have h0 : g0 (q : Int) n = true := by
      unfold g0
      rw [lss_eq, lss_eq, decide_eq_true (by omega), decide_eq_true (by omega)]
      rfl
    have e0 : b0 (q : Int) n = true := decide_eq_true (by omega)
    have e1 : b1 (q : Int) n = true := decide_eq_true (by omega)
    refine ⟨_, _, route_at (goes (q : Int) pg o0 o1 o2 o3 o4 o5 o6 o7 o8 o9 o10 o11 o12 o13 o14 o15 o16 o17 n n N N N N N N A X (memL F A X N q) (memL F A X N q)) ?_, .inl ⟨rfl, _, rfl, ⟨pg, o0, o1, o2, o3, o4, o5, o6, o7, o8, o9, o10, o11, o12, o13, o14, o15, o16, o17, n, N, q + 1, A, X, F, rfl, ?_, hm, hX, by omega, by omega⟩, ?_⟩⟩
    · have hx : yes (inU (X (Int.toNat (q : Int)))) = true := yes_of (hX q (by omega))
      unfold g1
      rw [h0, e0, e1, askM_of (memL_ok (A := A) (X := X) hm q) (show inU (atE (A (Int.toNat (q : Int)))) from inU.add _ _) inI8, hx]
      rfl
    · rw [hadd]
      rfl
    · simp only [List.getD_cons_succ, List.getD_cons_zero]
      rw [hadd]
      omega
  · refine ⟨_, _, route_at (ends (q : Int) pg o0 o1 o2 o3 o4 o5 o6 o7 o8 o9 o10 o11 o12 o13 o14 o15 o16 o17 n n N N N N N N A X (memL F A X N q) (memL F A X N q)) ?_, .inr ⟨rfl, _, rfl, pg, o0, o1, o2, o3, o4, o5, o6, o7, o8, o9, o10, o11, o12, o13, o14, o15, o16, o17, n, N, q, A, X, F, rfl, ?_⟩⟩
    · unfold g0
      rw [lss_eq, lss_eq]
      by_cases h1 : q < n
      · rw [decide_eq_true (by omega), decide_eq_false (by omega : ¬ (q : Int) < 64)]
        rfl
      · rw [decide_eq_false (by omega)]
        rfl
    · rw [show min n 64 = q by omega]
theorem X_ok : Ok Try.prog X := by
  refine cxs_ok.block (by kernel_rfl) fun hw s r hr => loopSumF_ok (I := I) (m := fun _ e => (65 - (e.i.getD 0 0)).toNat) (Fin := Fn) cxs_ok (fun e he => of_yes he) round ?_ hw s r hr
  rintro e0 e1 ⟨pg, o0, o1, o2, o3, o4, o5, o6, o7, o8, o9, o10, o11, o12, o13, o14, o15, o16, o17, n, N, q, A, X, F, rfl, rfl⟩
  kernel_rfl
end Both73
end Go.Proofs.Ytngcbpcfgolifaa.Ev

namespace Go.Proofs.Ytngcbpcfgolifaa.Ev
open Go.RowKit
set_option linter.unusedVariables false
set_option linter.unusedSimpArgs false
theorem memA {P : Program} {X : Cx DC} (hX : Ok P X) {n : Nat} {f : FuncId} {b c : Nat} {t : TypeId} {L C N : Nat} {F F1 F2 : Nat → Int} {h : List (AO DC)} {v v' : AV DC} {args args' : List (AV DC)} {l : List (W DC)} {ds cs : List Bool}
    (hr : seeM (hsM t L C N F) (call P X n f args' (hsM t L C N F)) ds = some (cs, .val v', hsM t L C N F1)) (hcs : cs = ds)
    (hb : h[b]? = some (.cells t [.slice c (.lit 0) (.rc L 1 0) (.kn (.rc C 1 0))])) (hc : h[c]? = some (.arr 5 N [(.int .u8, F)]))
    (hrest : b ≠ c → covL (at' [b, c]) args args') (hv : b ≠ c → covV (idx [b, c]) v' v)
    (hl : (l = [] ∧ ∀ i, i < N → F1 i = F i) ∨ (l = [.obj c (.arr 5 N [(.int .u8, F2)])] ∧ ∀ i, i < N → F1 i = F2 i)) : FnOk P f args h (v, l) := by
  subst hcs
  have hbc : b ≠ c := fun e => by subst e; rw [hb] at hc; cases hc
  have hbeq : Nat.beq b c = false := by
    cases hh : Nat.beq b c
    · rfl
    · exact absurd (Nat.eq_of_beq_eq_true hh) hbc
  unfold seeM at hr
  obtain ⟨⟨cs', z⟩, h1, h2⟩ := Option.map_eq_some_iff.1 hr
  simp only [Prod.mk.injEq] at h2
  obtain ⟨rfl, h3, h4⟩ := h2
  have hp := route_pick _ _ _ h1
  obtain ⟨z1, z2⟩ := z
  simp only at h3 h4 hp
  subst h3
  obtain ⟨q0, q1⟩ := take2 h4
  have i0 : idx [b, c] b = some 0 := by simp [idx]
  have i1 : idx [b, c] c = some 1 := by simp [idx, hbeq]
  refine frame_old [b, c] (fn_ok hX (r := (v', z2)) hp) (hrest hbc) ⟨?_, ?_, trivial⟩ ?_ (by simp [hbc]) (fun j i o hj ho => ?_) ?_ (fun i hi => ?_) (fun j i o hj ho => ?_) (hv hbc)
  · rw [hb]
    exact ⟨rfl, ⟨rfl, rfl, rfl, rfl⟩, trivial⟩
  · rw [hc]
    exact ⟨rfl, rfl, ⟨rfl, fun _ _ => rfl, trivial⟩⟩
  · simp [hsM, injB, notIn, AO.live, AO.mine, hbeq]
  · match j, hj with
    | 0, hj => cases hj; rw [hb] at ho; cases ho; rfl
    | 1, hj => cases hj; rw [hc] at ho; cases ho; rfl
    | _ + 2, hj => cases hj
  · rcases hl with ⟨rfl, _⟩ | ⟨rfl, _⟩
    · rfl
    · simp [St.apps, St.app]
  · rcases hl with ⟨rfl, _⟩ | ⟨rfl, _⟩
    · rfl
    · have : c ≠ i := fun e => hi (by simp [e])
      simp only [St.apps, St.app]
      rw [List.getElem?_set_ne this]
  · match j, hj with
    | 0, hj =>
      cases hj
      have ho' : h[b]? = some o := by
        rcases hl with ⟨rfl, _⟩ | ⟨rfl, _⟩
        · exact ho
        · simp only [St.apps, St.app] at ho
          rwa [List.getElem?_set_ne (fun e => hbc e.symm)] at ho
      rw [hb] at ho'
      cases ho'
      exact ⟨_, q0, rfl, ⟨i1, rfl, rfl, rfl⟩, trivial⟩
    | 1, hj =>
      cases hj
      rcases hl with ⟨rfl, hF⟩ | ⟨rfl, hF⟩
      · have ho' : h[c]? = some o := ho
        rw [hc] at ho'
        cases ho'
        exact ⟨_, q1, rfl, rfl, ⟨rfl, hF, trivial⟩⟩
      · simp only [St.apps, St.app] at ho
        rw [List.getElem?_set_self (List.getElem?_eq_some_iff.1 hc).1] at ho
        cases ho
        exact ⟨_, q1, rfl, rfl, ⟨rfl, hF, trivial⟩⟩
    | _ + 2, hj => cases hj

/-! ### What is asked -/
def sT (F : Nat → Int) (N L : Nat) (satp st pr k v n : Int) : Int := (cond (isW F N satp st pr k v) 0 (cond (!(okS L (toW F N satp st pr k v) n)) 0 (toW F N satp st pr k v)))
def sF (F : Nat → Int) (N L : Nat) (satp st pr k v n : Int) : Bool := (cond (isW F N satp st pr k v) (isW F N satp st pr k v) (cond (!(okS L (toW F N satp st pr k v) n)) true (isW F N satp st pr k v)))
def sC (F : Nat → Int) (N L : Nat) (satp st pr k v n : Int) : Int := (cond (isW F N satp st pr k v) (cauW F N satp st pr k v) (cond (!(okS L (toW F N satp st pr k v) n)) (cauS k 1 7 5) (cauW F N satp st pr k v)))
def sV (F : Nat → Int) (N L : Nat) (satp st pr k v n : Int) : Int := (cond (isW F N satp st pr k v) (valW F N satp st pr k v) (cond (!(okS L (toW F N satp st pr k v) n)) v (valW F N satp st pr k v)))
noncomputable def askS (L C N : Nat) (F : Nat → Int) (satp st pr k v n : Int) : Bool := ((askW L C N F satp st v) && (cond (isW F N satp st pr k v) true (askP L C (toW F N satp st pr k v) n)))
set_option maxRecDepth 100000 in
theorem spcTo (L C N : Nat) (F : Nat → Int) (st c1 c2 c3 c4 c5 c6 c7 c8 satp c10 c11 pr k va n : Int) : seeM (hsM 156 L C N F) (call Try.prog cxs 380 78 [.agg [.ptr 0 (.lit 0), .nilptr], .agg [.int .u64 (.sym st), .int .u64 (.sym c1), .int .u64 (.sym c2), .int .u64 (.sym c3), .int .u64 (.sym c4), .int .u64 (.sym c5), .int .u64 (.sym c6), .int .u64 (.sym c7), .int .u64 (.sym c8), .int .u64 (.sym satp), .int .u64 (.sym c10), .int .u64 (.sym c11)], .int .i64 (.sym pr), .int .i64 (.sym k), .int .u64 (.sym va), .int .i64 (.sym n)] (hsM 156 L C N F)) [true] =
    some ([askS L C N F satp st pr k va n], .val (.tuple [.int .u64 (.sym (sT F N L satp st pr k va n)), .agg [.bool (.sym (sF F N L satp st pr k va n)), .int .i64 (.sym (sC F N L satp st pr k va n)), .int .u64 (.sym (sV F N L satp st pr k va n))]]), hsM 156 L C N F) := by kernel_rfl
noncomputable def gSpc (args : List (AV DC)) (h : List (AO DC)) : Option (T DC (AV DC × List (W DC))) := match args with
  | [.agg [.ptr b (.lit 0), .nilptr], .agg [.int .u64 st, .int .u64 c1, .int .u64 c2, .int .u64 c3, .int .u64 c4, .int .u64 c5, .int .u64 c6, .int .u64 c7, .int .u64 c8, .int .u64 satp, .int .u64 c10, .int .u64 c11], .int .i64 pr, .int .i64 k, .int .u64 va, .int .i64 n] => match h[b]? with
    | some (.cells 156 [.slice c (.lit 0) (.rc L 1 0) (.kn (.rc C 1 0))]) => match h[c]? with
      | some (.arr 5 N [(.int .u8, F)]) => some (.br (askS L C N F satp.den st.den pr.den k.den va.den n.den) (.ret (.tuple [.int .u64 (.sym (sT F N L satp.den st.den pr.den k.den va.den n.den)), .agg [.bool (.sym (sF F N L satp.den st.den pr.den k.den va.den n.den)), .int .i64 (.sym (sC F N L satp.den st.den pr.den k.den va.den n.den)), .int .u64 (.sym (sV F N L satp.den st.den pr.den k.den va.den n.den))]], [])) .fail)
      | _ => none
    | _ => none
  | _ => none
noncomputable def cxo : Cx DC := cxs.sum 78 gSpc
theorem cxo_ok : Ok Try.prog cxo := cxs_ok.sum (by kernel_rfl) fun args h t r ht hp => by
  unfold gSpc at ht
  split at ht
  · rename_i b st c1 c2 c3 c4 c5 c6 c7 c8 satp c10 c11 pr k va n
    split at ht
    · rename_i c L C hb
      split at ht
      · rename_i N F hc
        cases ht
        obtain ⟨h1, h2⟩ := T.ask hp
        have := T.ret_some h2
        subst this
        exact memA (F2 := F) cxs_ok (spcTo L C N F st.den c1.den c2.den c3.den c4.den c5.den c6.den c7.den c8.den satp.den c10.den c11.den pr.den k.den va.den n.den) (by rw [h1]) hb hc (fun hbc => ⟨⟨⟨rfl, rfl⟩, trivial, trivial⟩, ⟨⟨rfl, rfl⟩, ⟨rfl, rfl⟩, ⟨rfl, rfl⟩, ⟨rfl, rfl⟩, ⟨rfl, rfl⟩, ⟨rfl, rfl⟩, ⟨rfl, rfl⟩, ⟨rfl, rfl⟩, ⟨rfl, rfl⟩, ⟨rfl, rfl⟩, ⟨rfl, rfl⟩, ⟨rfl, rfl⟩, trivial⟩, ⟨rfl, rfl⟩, ⟨rfl, rfl⟩, ⟨rfl, rfl⟩, ⟨rfl, rfl⟩, trivial⟩) (fun hbc => ⟨⟨rfl, rfl⟩, ⟨rfl, ⟨rfl, rfl⟩, ⟨rfl, rfl⟩, trivial⟩, trivial⟩) (.inl ⟨rfl, fun _ _ => rfl⟩)
      · cases ht
    · cases ht
  · cases ht
end Go.Proofs.Ytngcbpcfgolifaa.Ev

namespace Go.Proofs.Ytngcbpcfgolifaa.Ev
open Go.RowKit
set_option linter.unusedVariables false
set_option linter.unusedSimpArgs false
namespace Page
theorem subu (x y : Int) : litBin .sub .u64 x y = (x - y) % 18446744073709551616 := wrap64 _
theorem addu (x y : Int) : litBin .add .u64 x y = (x + y) % 18446744073709551616 := wrap64 _
theorem shr_same {x y : Int} (hx : inU x) (hy : inU y) (h : y / 4096 = x / 4096) : litBin .shr .u64 y 12 = litBin .shr .u64 x 12 ∧ litBin .shr .u64 y 21 = litBin .shr .u64 x 21 ∧ litBin .shr .u64 y 30 = litBin .shr .u64 x 30 ∧ litBin .shr .u64 y 38 = litBin .shr .u64 x 38 := by
  have a1 : ∀ z : Int, litBin .shr .u64 z 12 = z / 4096 := fun z => shr_ediv z 12 (by decide)
  have a2 : ∀ z : Int, litBin .shr .u64 z 21 = z / 2097152 := fun z => shr_ediv z 21 (by decide)
  have a3 : ∀ z : Int, litBin .shr .u64 z 30 = z / 1073741824 := fun z => shr_ediv z 30 (by decide)
  have a4 : ∀ z : Int, litBin .shr .u64 z 38 = z / 274877906944 := fun z => shr_ediv z 38 (by decide)
  rw [a1, a1, a2, a2, a3, a3, a4, a4]
  omega
theorem vpn_same {x y lv : Int} (hx : inU x) (hy : inU y) (h : y / 4096 = x / 4096) : vpnS y lv = vpnS x lv := by
  obtain ⟨s1, s2, s3, _⟩ := shr_same hx hy h
  unfold vpnS
  cases hk : kno lv
  · rfl
  · rcases kno_cases hk with rfl | rfl | rfl
    · show litBin .and .u64 (litBin .shr .u64 y 12) 511 = litBin .and .u64 (litBin .shr .u64 x 12) 511
      rw [s1]
    · show litBin .and .u64 (litBin .shr .u64 y 21) 511 = litBin .and .u64 (litBin .shr .u64 x 21) 511
      rw [s2]
    · show litBin .and .u64 (litBin .shr .u64 y 30) 511 = litBin .and .u64 (litBin .shr .u64 x 30) 511
      rw [s3]
theorem can_same {x y : Int} (hx : inU x) (hy : inU y) (h : y / 4096 = x / 4096) : canS y = canS x := by
  rw [← can_eq hx, ← can_eq hy]
  unfold canR
  rw [(shr_same hx hy h).2.2.2]
theorem adr_same {x y p lv : Int} (hx : inU x) (hy : inU y) (h : y / 4096 = x / 4096) : adr p y lv = adr p x lv := by
  unfold adr
  rw [vpn_same hx hy h]
theorem out_same {α : Type} {F : Nat → Int} {N : Nat} {satp st pr k x y : Int} (hx : inU x) (hy : inU y) (h : y / 4096 = x / 4096) (g : α → α) (a b c d e f : α) (d' e' f' : α) (hd : d' = d) (he : e' = e) (hf : f' = f) :
    outW F N satp st pr k y a b c d' e' f' = outW F N satp st pr k x a b c d e f := by
  have q2 : en2 F N (root satp) y = en2 F N (root satp) x := by unfold en2; rw [adr_same hx hy h]
  have q1 : en1 F N (root satp) y = en1 F N (root satp) x := by unfold en1; rw [q2, adr_same hx hy h]
  have q0 : en0 F N (root satp) y = en0 F N (root satp) x := by unfold en0; rw [q1, adr_same hx hy h]
  have r2 : k2 N (root satp) y = k2 N (root satp) x := by unfold k2; rw [adr_same hx hy h]
  have r1 : k1 F N (root satp) y = k1 F N (root satp) x := by unfold k1; rw [q2, adr_same hx hy h]
  have r0 : k0 F N (root satp) y = k0 F N (root satp) x := by unfold k0; rw [q1, adr_same hx hy h]
  unfold outW outP
  rw [can_same hx hy h, q2, q1, q0, r2, r1, r0, hd, he, hf]
theorem is_val {F : Nat → Int} {N : Nat} {satp st pr k va : Int} (h : isW F N satp st pr k va = true) : valW F N satp st pr k va = va := by
  revert h
  unfold isW valW outW outP
  generalize bad (en2 F N (root satp) va) 2 st pr k = q2
  generalize bad (en1 F N (root satp) va) 1 st pr k = q1
  generalize bad (en0 F N (root satp) va) 0 st pr k = q0
  generalize leafS (en2 F N (root satp) va) = l2
  generalize leafS (en1 F N (root satp) va) = l1
  generalize leafS (en0 F N (root satp) va) = l0
  generalize tabS (en2 F N (root satp) va) = t2
  generalize tabS (en1 F N (root satp) va) = t1
  generalize k2 N (root satp) va = a2
  generalize k1 F N (root satp) va = a1
  generalize k0 F N (root satp) va = a0
  generalize canS va = cn
  generalize np satp = n
  intro h
  cases n
  · cases cn
    · rfl
    · cases a2
      · rfl
      · cases l2
        · cases t2
          · rfl
          · cases a1
            · rfl
            · cases l1
              · cases t1
                · rfl
                · cases a0
                  · rfl
                  · cases l0
                    · rfl
                    · cases q0
                      · cases h
                      · rfl
              · cases q1
                · cases h
                · rfl
        · cases q2
          · cases h
          · rfl
  · cases h
theorem lv_kno {F : Nat → Int} {N : Nat} {satp st pr k va : Int} : kno (lvW F N satp st pr k va) = true :=
  outW_ind (fun v => kno v = true) rfl rfl rfl rfl rfl rfl
theorem toW_inU {F : Nat → Int} {N : Nat} {satp st pr k va : Int} (hm : MemOk N F) (hv : inU va) : inU (toW F N satp st pr k va) := by
  unfold toW
  cases isW F N satp st pr k va
  · cases np satp
    · have he : inU (pteW F N satp st pr k va) := pteW_inU hm
      have hk : kno (lvW F N satp st pr k va) = true := outW_ind (fun v => kno v = true) rfl rfl rfl rfl rfl rfl
      show inU (atS (pteW F N satp st pr k va) va (lvW F N satp st pr k va))
      rw [at_val he hv hk]
      have hp : 0 ≤ pagS (pteW F N satp st pr k va) ∧ pagS (pteW F N satp st pr k va) < 17592186044416 := by rw [pag_val he]; omega
      generalize pagS (pteW F N satp st pr k va) = p at hp
      rcases kno_cases hk with h | h | h <;> rw [h]
      · show inU (p * 4096 / 4096 * 4096 + va % 4096)
        unfold inU at *
        omega
      · show inU (p * 4096 / 2097152 * 2097152 + va % 2097152)
        unfold inU at *
        omega
      · show inU (p * 4096 / 1073741824 * 1073741824 + va % 1073741824)
        unfold inU at *
        omega
    · exact hv
  · exact inU0
section
variable {F : Nat → Int} {N : Nat} {satp st pr k x y : Int}
theorem isW_same (hx : inU x) (hy : inU y) (h : y / 4096 = x / 4096) : isW F N satp st pr k y = isW F N satp st pr k x :=
  out_same hx hy h id false true true false false false _ _ _ rfl rfl rfl
theorem cauW_same (hx : inU x) (hy : inU y) (h : y / 4096 = x / 4096) : cauW F N satp st pr k y = cauW F N satp st pr k x :=
  out_same hx hy h id 0 (cauS k 12 15 13) (cauS k 1 7 5) 0 0 0 _ _ _ rfl rfl rfl
theorem lvW_same (hx : inU x) (hy : inU y) (h : y / 4096 = x / 4096) : lvW F N satp st pr k y = lvW F N satp st pr k x :=
  out_same hx hy h id 0 0 0 2 1 0 _ _ _ rfl rfl rfl
theorem pteW_same (hx : inU x) (hy : inU y) (h : y / 4096 = x / 4096) : pteW F N satp st pr k y = pteW F N satp st pr k x := by
  have q2 : en2 F N (root satp) y = en2 F N (root satp) x := by unfold en2; rw [adr_same hx hy h]
  have q1 : en1 F N (root satp) y = en1 F N (root satp) x := by unfold en1; rw [q2, adr_same hx hy h]
  have q0 : en0 F N (root satp) y = en0 F N (root satp) x := by unfold en0; rw [q1, adr_same hx hy h]
  exact out_same hx hy h id 0 0 0 _ _ _ _ _ _ q2 q1 q0
theorem toW_val (hm : MemOk N F) (hx : inU x) (hf : isW F N satp st pr k x = false) (hn : np satp = false) : ∃ p : Int, toW F N satp st pr k x = p * 4096 + x % 4096 ∧ (∀ y, inU y → y / 4096 = x / 4096 → toW F N satp st pr k y = p * 4096 + y % 4096) := by
  have he : inU (pteW F N satp st pr k x) := pteW_inU hm
  have hk : kno (lvW F N satp st pr k x) = true := lv_kno
  have all : ∀ z, inU z → z / 4096 = x / 4096 → toW F N satp st pr k z = atS (pteW F N satp st pr k x) z (lvW F N satp st pr k x) := fun z hz e => by
    unfold toW
    rw [isW_same hx hz e, hf, hn, pteW_same hx hz e, lvW_same hx hz e]
    rfl
  generalize pteW F N satp st pr k x = e at *
  generalize lvW F N satp st pr k x = lv at *
  rcases kno_cases hk with rfl | rfl | rfl
  · have v : ∀ z, inU z → atS e z 0 = pagS e * 4096 / 4096 * 4096 + z % 4096 := fun z hz => at_val he hz hk
    refine ⟨pagS e, ?_, fun z hz hzx => ?_⟩
    · rw [all x hx rfl, v x hx]; omega
    · rw [all z hz hzx, v z hz]; omega
  · have v : ∀ z, inU z → atS e z 1 = pagS e * 4096 / 2097152 * 2097152 + z % 2097152 := fun z hz => at_val he hz hk
    refine ⟨pagS e * 4096 / 2097152 * 512 + x % 2097152 / 4096, ?_, fun z hz hzx => ?_⟩
    · rw [all x hx rfl, v x hx]; omega
    · rw [all z hz hzx, v z hz]; omega
  · have v : ∀ z, inU z → atS e z 2 = pagS e * 4096 / 1073741824 * 1073741824 + z % 1073741824 := fun z hz => at_val he hz hk
    refine ⟨pagS e * 4096 / 1073741824 * 262144 + x % 1073741824 / 4096, ?_, fun z hz hzx => ?_⟩
    · rw [all x hx rfl, v x hx]; omega
    · rw [all z hz hzx, v z hz]; omega
theorem toW_same (hm : MemOk N F) (hx : inU x) (hy : inU y) (h : y / 4096 = x / 4096) (hf : isW F N satp st pr k x = false) : toW F N satp st pr k y = toW F N satp st pr k x + (y - x) := by
  cases hn : np satp
  · obtain ⟨p, h1, h2⟩ := toW_val hm hx hf hn
    rw [h1, h2 y hy h]
    omega
  · unfold toW
    rw [isW_same hx hy h, hf, hn]
    show y = x + (y - x)
    omega
theorem toW_mod (hm : MemOk N F) (hx : inU x) (hf : isW F N satp st pr k x = false) : toW F N satp st pr k x % 8 = x % 8 := by
  cases hn : np satp
  · obtain ⟨p, h1, h2⟩ := toW_val hm hx hf hn
    rw [h1]
    omega
  · unfold toW
    rw [hf, hn]
    rfl
end
theorem num_cases {n : Int} (h : num n = true) : n = 1 ∨ n = 2 ∨ n = 4 ∨ n = 8 := of_decide_eq_true h
theorem ok_same {N : Nat} {t n i : Int} (hN : (N : Int) % 8 = 0) (hn : num n = true) (ht : t % n = 0) (hi : 0 ≤ i ∧ i < n) : okS N (t + i) 1 = okS N t n := by
  unfold okS
  rw [decide_eq_decide]
  rcases num_cases hn with rfl | rfl | rfl | rfl <;> omega
section
variable {F : Nat → Int} {N : Nat} {satp st pr k va n i : Int}
theorem near (hv : inU va) (hn : num n = true) (ha : va % n = 0) (hi : 0 ≤ i ∧ i < n) : inU (va + i) ∧ (va + i) / 4096 = va / 4096 ∧ litBin .add .u64 va i = va + i := by
  rw [addu]
  unfold inU at *
  rcases num_cases hn with rfl | rfl | rfl | rfl <;> omega
theorem to_al (hm : MemOk N F) (hv : inU va) (hn : num n = true) (ha : va % n = 0) (hf : isW F N satp st pr k va = false) : toW F N satp st pr k va % n = 0 := by
  have := toW_mod hm hv hf
  rcases num_cases hn with rfl | rfl | rfl | rfl <;> omega
theorem all_same (hm : MemOk N F) (hN : (N : Int) % 8 = 0) (hv : inU va) (hn : num n = true) (ha : va % n = 0) (hi : 0 ≤ i ∧ i < n) :
    sF F N N satp st pr k (va + i) 1 = sF F N N satp st pr k va n ∧ sC F N N satp st pr k (va + i) 1 = sC F N N satp st pr k va n ∧ (sF F N N satp st pr k va n = false → sT F N N satp st pr k (va + i) 1 = sT F N N satp st pr k va n + i) := by
  obtain ⟨h1, h2, -⟩ := near hv hn ha hi
  unfold sF sC sT
  rw [isW_same hv h1 h2, cauW_same hv h1 h2]
  cases hf : isW F N satp st pr k va
  · have e := toW_same hm hv h1 h2 hf
    rw [show va + i - va = i by omega] at e
    rw [e, ok_same hN hn (to_al hm hv hn ha hf) hi]
    refine ⟨rfl, rfl, fun h => ?_⟩
    cases ho : okS N (toW F N satp st pr k va) n
    · rw [ho] at h
      cases h
    · rfl
  · simp only [cond_true]
    exact ⟨trivial, trivial, fun h => nomatch h⟩
theorem sV_t (h : sF F N N satp st pr k va n = true) : sV F N N satp st pr k va n = va := by
  have hi : isW F N satp st pr k va = true → _ := is_val
  revert h
  unfold sF sV
  cases h1 : isW F N satp st pr k va
  · cases okS N (toW F N satp st pr k va) n <;> intro h <;> first | rfl | cases h
  · intro _
    exact hi h1
theorem sT_inU (hm : MemOk N F) (hv : inU va) : inU (sT F N N satp st pr k va n) := by
  have := toW_inU (satp := satp) (st := st) (pr := pr) (k := k) hm hv
  unfold sT
  cases isW F N satp st pr k va
  · cases okS N (toW F N satp st pr k va) n
    · exact inU0
    · exact this
  · exact inU0
theorem inI_num (hn : num n = true) : inI n := by
  unfold inI
  rcases num_cases hn with rfl | rfl | rfl | rfl <;> omega
theorem askS_t (hm : MemOk N F) (h1 : inU satp) (h2 : inU st) (hv : inU va) (hn : num n = true) : askS N N N F satp st pr k va n = true := by
  unfold askS
  rw [askW_of hm h1 h2 hv]
  cases isW F N satp st pr k va
  · exact yes_of ⟨rfl, hm.le, toW_inU hm hv, inI_num hn⟩
  · rfl
end
theorem byte_bd {F : Nat → Int} {N : Nat} {x : Int} (hm : MemOk N F) (hx : inU x) : 0 ≤ getS F N x 1 ∧ getS F N x 1 < 256 := by
  unfold getS
  cases h : (num 1 && okS N x 1)
  · show (0 : Int) ≤ 0 ∧ (0 : Int) < 256
    omega
  · rw [Bool.and_eq_true] at h
    exact le_bd hm.byte 1 _ (ok_off h.2 hx).2.2
def orN (g : Nat → Int) : Nat → Int
  | 0 => 0
  | k + 1 => litBin .or .u64 (orN g k) (litBin .shl .u64 (g k) ((8 * k : Nat) : Int))
def addN (g : Nat → Int) : Nat → Int
  | 0 => 0
  | k + 1 => litBin .add .u64 (addN g k) (litBin .shl .u64 (g k) ((8 * k : Nat) : Int))
theorem byte_shl {c k : Nat} (hk : k < 8) (hc : c < 256) : litBin .shl .u64 (c : Int) ((8 * k : Nat) : Int) = ((c * 256 ^ k : Nat) : Int) := by
  have := or_step (a := 0) (c := c) (k := k) hk (Nat.pow_pos (by decide)) hc
  have hw : IntKind.wrap .u64 (c : Int) = (c : Int) := by rw [Ev.wrap64]; omega
  rw [hw, Nat.zero_add] at this
  rw [← this]
  have hx : inU (litBin .shl .u64 (c : Int) ((8 * k : Nat) : Int)) := inU.shl _ _
  obtain ⟨n, hn, hn2⟩ := hx.nat
  rw [hn]
  have := or_nat (x := 0) (y := n) (by decide) hn2
  rw [Nat.zero_or] at this
  exact this.symm
theorem sum_step {a c k : Nat} (hk : k < 8) (h1 : a < 256 ^ k) (hc : c < 256) : a + c * 256 ^ k < 256 ^ (k + 1) ∧ litBin .or .u64 (a : Int) (litBin .shl .u64 (c : Int) ((8 * k : Nat) : Int)) = ((a + c * 256 ^ k : Nat) : Int) ∧ litBin .add .u64 (a : Int) (litBin .shl .u64 (c : Int) ((8 * k : Nat) : Int)) = ((a + c * 256 ^ k : Nat) : Int) := by
  have hs := byte_shl hk hc
  have ho := or_step hk h1 hc
  have hw : IntKind.wrap .u64 (c : Int) = (c : Int) := by rw [Ev.wrap64]; omega
  rw [hw] at ho
  have hb : a + c * 256 ^ k < 256 ^ (k + 1) := by
    have : c * 256 ^ k ≤ 255 * 256 ^ k := Nat.mul_le_mul_right _ (by omega)
    rw [Nat.pow_succ]
    omega
  refine ⟨hb, ho, ?_⟩
  rw [hs, addu]
  have h8 : 256 ^ (k + 1) ≤ 18446744073709551616 := Nat.le_trans (Nat.pow_le_pow_right (n := 256) (by decide) hk) (by decide)
  generalize 256 ^ (k + 1) = m at hb h8
  generalize c * 256 ^ k = d at hb
  omega
theorem sum_ok {g : Nat → Int} (hg : ∀ i, i < 8 → 0 ≤ g i ∧ g i < 256) (k : Nat) : k ≤ 8 → ∃ a : Nat, a < 256 ^ k ∧ orN g k = (a : Int) ∧ addN g k = (a : Int) := by
  induction k with
  | zero => exact fun _ => ⟨0, Nat.pow_pos (by decide), rfl, rfl⟩
  | succ k ih =>
    intro hk
    obtain ⟨a, h1, h2, h3⟩ := ih (by omega)
    obtain ⟨b1, b2⟩ := hg k (by omega)
    obtain ⟨c, hc⟩ : ∃ c : Nat, g k = (c : Int) := ⟨(g k).toNat, by omega⟩
    have hc2 : c < 256 := by omega
    obtain ⟨s1, s2, s3⟩ := sum_step (by omega) h1 hc2
    refine ⟨a + c * 256 ^ k, s1, ?_, ?_⟩
    · rw [← s2, ← h2, ← hc]
      rfl
    · rw [← s3, ← h3, ← hc]
      rfl
theorem or_add {g : Nat → Int} (hg : ∀ i, i < 8 → 0 ≤ g i ∧ g i < 256) {k : Nat} (hk : k ≤ 8) : orN g k = addN g k := by
  obtain ⟨a, _, h1, h2⟩ := sum_ok hg k hk
  rw [h1, h2]
end Page
end Go.Proofs.Ytngcbpcfgolifaa.Ev
