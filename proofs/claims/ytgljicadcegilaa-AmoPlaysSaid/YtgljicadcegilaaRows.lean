/-
  No cell of these rows narrows 'for every input' (looked for: loops, veiled, ifaces, maps, wideKeys, modest, calm, conditions, laid).
  DERIVED. THE GIVEN ROWS OF THIS SEAT. 17 by the template 'for every input the law returns true; each argument reads behind the call as it read before'; 0 by the template 'total and deterministic' (their statements: YtgljicadcegilaaTotals.lean).
  GIVEN WITH THE SEED: the statements are not yours to turn. If you find one false, say at which input.
  Laid BY PROGRAM, IN A SANDBOX (cutbox-rows.mjs): the forced cells as the released guide's own fill.sh prints them over the translation 2212554465270653… (all of the seat's roots in one cut). By AI agents, Wed Nov 11 2026. No macro, syntax, notation, axiom, sorry.
-/
import Derived.Test.YtgljicadcegilaaChecked
import GoSem.Claim
import GoSem.ClaimJoined
import GoSem.ClaimMapViews
import Derived.JoinedTies
import Derived.KernelRfl
namespace Go.Proofs.Ytgljicadcegilaa
/- THE CELL 'sum', in the pinned program and in every row, IS THE sha256 OF THE DUMP (.gsa) THAT YtgljicadcegilaaProg.lean LOADS. Nothing in Lean hashes anything: it is a label: what it is worth is what the hold of that sum in a sandbox is worth. -/
noncomputable def Try.pinned : Pinned := { name := "ytgljicadcegilaa", sum := "2212554465270653082d487e1e19d226f55436fc66402c71f87823f0f6fbf9df", checked := Try.checked }
namespace Rows
def none {H : Type} : Left H := { results := [], args := [] }

/-- 'suzerainlaw01.WordDivides': WHATEVER THE INPUT: true; the input reads as it did. -/
def wordDividesSpec : ChangeSpec := { name := "wordDivides", fn := fun _ => fun
  | [d1, d2] => { results := [.lit (.bool true)], args := [d1, d2] }
  | _ => none }
def wordDividesRow : OpenClaim := { program := "ytgljicadcegilaa", sum := "2212554465270653082d487e1e19d226f55436fc66402c71f87823f0f6fbf9df", func := "suzerain/suzerainlaw01.WordDivides", spec := "wordDivides", apart := false }
def WordDividesSaid : Prop := wordDividesRow.holds Try.pinned (OpenSpec.ofChange wordDividesSpec)

/-- ITS FALSE NEIGHBOUR: 'it returns false'. Refute it at one input. -/
def wordDividesWrong : ChangeSpec := { name := "wordDivides", fn := fun _ => fun
  | [d1, d2] => { results := [.lit (.bool false)], args := [d1, d2] }
  | _ => none }
def WordDividesWrongFalsely : Prop := wordDividesRow.holds Try.pinned (OpenSpec.ofChange wordDividesWrong)

/-- 'suzerainlaw01.WordSigns': WHATEVER THE INPUT: true; the input reads as it did. -/
def wordSignsSpec : ChangeSpec := { name := "wordSigns", fn := fun _ => fun
  | [d1, d2, d3] => { results := [.lit (.bool true)], args := [d1, d2, d3] }
  | _ => none }
def wordSignsRow : OpenClaim := { program := "ytgljicadcegilaa", sum := "2212554465270653082d487e1e19d226f55436fc66402c71f87823f0f6fbf9df", func := "suzerain/suzerainlaw01.WordSigns", spec := "wordSigns", apart := false }
def WordSignsSaid : Prop := wordSignsRow.holds Try.pinned (OpenSpec.ofChange wordSignsSpec)

/-- ITS FALSE NEIGHBOUR: 'it returns false'. Refute it at one input. -/
def wordSignsWrong : ChangeSpec := { name := "wordSigns", fn := fun _ => fun
  | [d1, d2, d3] => { results := [.lit (.bool false)], args := [d1, d2, d3] }
  | _ => none }
def WordSignsWrongFalsely : Prop := wordSignsRow.holds Try.pinned (OpenSpec.ofChange wordSignsWrong)

/-- 'suzerainlaw01.WordShifts': WHATEVER THE INPUT: true; the input reads as it did. -/
def wordShiftsSpec : ChangeSpec := { name := "wordShifts", fn := fun _ => fun
  | [d1, d2] => { results := [.lit (.bool true)], args := [d1, d2] }
  | _ => none }
def wordShiftsRow : OpenClaim := { program := "ytgljicadcegilaa", sum := "2212554465270653082d487e1e19d226f55436fc66402c71f87823f0f6fbf9df", func := "suzerain/suzerainlaw01.WordShifts", spec := "wordShifts", apart := false }
def WordShiftsSaid : Prop := wordShiftsRow.holds Try.pinned (OpenSpec.ofChange wordShiftsSpec)

/-- ITS FALSE NEIGHBOUR: 'it returns false'. Refute it at one input. -/
def wordShiftsWrong : ChangeSpec := { name := "wordShifts", fn := fun _ => fun
  | [d1, d2] => { results := [.lit (.bool false)], args := [d1, d2] }
  | _ => none }
def WordShiftsWrongFalsely : Prop := wordShiftsRow.holds Try.pinned (OpenSpec.ofChange wordShiftsWrong)

/-- 'suzerainlaw01.WordSmall': WHATEVER THE INPUT: true; the input reads as it did. -/
def wordSmallSpec : ChangeSpec := { name := "wordSmall", fn := fun _ => fun
  | [d1, d2, d3] => { results := [.lit (.bool true)], args := [d1, d2, d3] }
  | _ => none }
def wordSmallRow : OpenClaim := { program := "ytgljicadcegilaa", sum := "2212554465270653082d487e1e19d226f55436fc66402c71f87823f0f6fbf9df", func := "suzerain/suzerainlaw01.WordSmall", spec := "wordSmall", apart := false }
def WordSmallSaid : Prop := wordSmallRow.holds Try.pinned (OpenSpec.ofChange wordSmallSpec)

/-- ITS FALSE NEIGHBOUR: 'it returns false'. Refute it at one input. -/
def wordSmallWrong : ChangeSpec := { name := "wordSmall", fn := fun _ => fun
  | [d1, d2, d3] => { results := [.lit (.bool false)], args := [d1, d2, d3] }
  | _ => none }
def WordSmallWrongFalsely : Prop := wordSmallRow.holds Try.pinned (OpenSpec.ofChange wordSmallWrong)

/-- 'suzerainlaw01.WordHalves': WHATEVER THE INPUT: true; the input reads as it did. -/
def wordHalvesSpec : ChangeSpec := { name := "wordHalves", fn := fun _ => fun
  | [d1, d2, d3] => { results := [.lit (.bool true)], args := [d1, d2, d3] }
  | _ => none }
def wordHalvesRow : OpenClaim := { program := "ytgljicadcegilaa", sum := "2212554465270653082d487e1e19d226f55436fc66402c71f87823f0f6fbf9df", func := "suzerain/suzerainlaw01.WordHalves", spec := "wordHalves", apart := false }
def WordHalvesSaid : Prop := wordHalvesRow.holds Try.pinned (OpenSpec.ofChange wordHalvesSpec)

/-- ITS FALSE NEIGHBOUR: 'it returns false'. Refute it at one input. -/
def wordHalvesWrong : ChangeSpec := { name := "wordHalves", fn := fun _ => fun
  | [d1, d2, d3] => { results := [.lit (.bool false)], args := [d1, d2, d3] }
  | _ => none }
def WordHalvesWrongFalsely : Prop := wordHalvesRow.holds Try.pinned (OpenSpec.ofChange wordHalvesWrong)

/-- 'suzerainlaw08.AmoOne': WHATEVER THE INPUT: true; the input reads as it did. -/
def amoOneSpec : ChangeSpec := { name := "amoOne", fn := fun _ => fun
  | [d1, d2, d3] => { results := [.lit (.bool true)], args := [d1, d2, d3] }
  | _ => none }
def amoOneRow : OpenClaim := { program := "ytgljicadcegilaa", sum := "2212554465270653082d487e1e19d226f55436fc66402c71f87823f0f6fbf9df", func := "suzerain/suzerainlaw08.AmoOne", spec := "amoOne", unfollowed := true, recurses := true, apart := false }
def AmoOneSaid : Prop := amoOneRow.holds Try.pinned (OpenSpec.ofChange amoOneSpec)

/-- ITS FALSE NEIGHBOUR: 'it returns false'. Refute it at one input. -/
def amoOneWrong : ChangeSpec := { name := "amoOne", fn := fun _ => fun
  | [d1, d2, d3] => { results := [.lit (.bool false)], args := [d1, d2, d3] }
  | _ => none }
def AmoOneWrongFalsely : Prop := amoOneRow.holds Try.pinned (OpenSpec.ofChange amoOneWrong)

/-- 'suzerainlaw08.AmoStores': WHATEVER THE INPUT: true; the input reads as it did. -/
def amoStoresSpec : ChangeSpec := { name := "amoStores", fn := fun _ => fun
  | [d1, d2, d3] => { results := [.lit (.bool true)], args := [d1, d2, d3] }
  | _ => none }
def amoStoresRow : OpenClaim := { program := "ytgljicadcegilaa", sum := "2212554465270653082d487e1e19d226f55436fc66402c71f87823f0f6fbf9df", func := "suzerain/suzerainlaw08.AmoStores", spec := "amoStores", unfollowed := true, recurses := true, apart := false }
def AmoStoresSaid : Prop := amoStoresRow.holds Try.pinned (OpenSpec.ofChange amoStoresSpec)

/-- ITS FALSE NEIGHBOUR: 'it returns false'. Refute it at one input. -/
def amoStoresWrong : ChangeSpec := { name := "amoStores", fn := fun _ => fun
  | [d1, d2, d3] => { results := [.lit (.bool false)], args := [d1, d2, d3] }
  | _ => none }
def AmoStoresWrongFalsely : Prop := amoStoresRow.holds Try.pinned (OpenSpec.ofChange amoStoresWrong)

/-- 'suzerainlaw08.AmoPlays': WHATEVER THE INPUT: true; the input reads as it did. -/
def amoPlaysSpec : ChangeSpec := { name := "amoPlays", fn := fun _ => fun
  | [d] => { results := [.lit (.bool true)], args := [d] }
  | _ => none }
def amoPlaysRow : OpenClaim := { program := "ytgljicadcegilaa", sum := "2212554465270653082d487e1e19d226f55436fc66402c71f87823f0f6fbf9df", func := "suzerain/suzerainlaw08.AmoPlays", spec := "amoPlays", unfollowed := true, recurses := true, apart := false }
def AmoPlaysSaid : Prop := amoPlaysRow.holds Try.pinned (OpenSpec.ofChange amoPlaysSpec)

/-- ITS FALSE NEIGHBOUR: 'it returns false'. Refute it at one input. -/
def amoPlaysWrong : ChangeSpec := { name := "amoPlays", fn := fun _ => fun
  | [d] => { results := [.lit (.bool false)], args := [d] }
  | _ => none }
def AmoPlaysWrongFalsely : Prop := amoPlaysRow.holds Try.pinned (OpenSpec.ofChange amoPlaysWrong)

/-- 'suzerainlaw01.WordAll': WHATEVER THE INPUT: true; the input reads as it did. -/
def wordAllSpec : ChangeSpec := { name := "wordAll", fn := fun _ => fun
  | [d1, d2, d3] => { results := [.lit (.bool true)], args := [d1, d2, d3] }
  | _ => none }
def wordAllRow : OpenClaim := { program := "ytgljicadcegilaa", sum := "2212554465270653082d487e1e19d226f55436fc66402c71f87823f0f6fbf9df", func := "suzerain/suzerainlaw01.WordAll", spec := "wordAll", apart := false }
def WordAllSaid : Prop := wordAllRow.holds Try.pinned (OpenSpec.ofChange wordAllSpec)

/-- ITS FALSE NEIGHBOUR: 'it returns false'. Refute it at one input. -/
def wordAllWrong : ChangeSpec := { name := "wordAll", fn := fun _ => fun
  | [d1, d2, d3] => { results := [.lit (.bool false)], args := [d1, d2, d3] }
  | _ => none }
def WordAllWrongFalsely : Prop := wordAllRow.holds Try.pinned (OpenSpec.ofChange wordAllWrong)

/-- 'suzerainlaw08.AmoValues': WHATEVER THE INPUT: true; the input reads as it did. -/
def amoValuesSpec : ChangeSpec := { name := "amoValues", fn := fun _ => fun
  | [d1, d2, d3] => { results := [.lit (.bool true)], args := [d1, d2, d3] }
  | _ => none }
def amoValuesRow : OpenClaim := { program := "ytgljicadcegilaa", sum := "2212554465270653082d487e1e19d226f55436fc66402c71f87823f0f6fbf9df", func := "suzerain/suzerainlaw08.AmoValues", spec := "amoValues", unfollowed := true, recurses := true, apart := false }
def AmoValuesSaid : Prop := amoValuesRow.holds Try.pinned (OpenSpec.ofChange amoValuesSpec)

/-- ITS FALSE NEIGHBOUR: 'it returns false'. Refute it at one input. -/
def amoValuesWrong : ChangeSpec := { name := "amoValues", fn := fun _ => fun
  | [d1, d2, d3] => { results := [.lit (.bool false)], args := [d1, d2, d3] }
  | _ => none }
def AmoValuesWrongFalsely : Prop := amoValuesRow.holds Try.pinned (OpenSpec.ofChange amoValuesWrong)

/-- 'suzerainlaw08.AmoAll': WHATEVER THE INPUT: true; the input reads as it did. -/
def amoAllSpec : ChangeSpec := { name := "amoAll", fn := fun _ => fun
  | [d1, d2, d3] => { results := [.lit (.bool true)], args := [d1, d2, d3] }
  | _ => none }
def amoAllRow : OpenClaim := { program := "ytgljicadcegilaa", sum := "2212554465270653082d487e1e19d226f55436fc66402c71f87823f0f6fbf9df", func := "suzerain/suzerainlaw08.AmoAll", spec := "amoAll", unfollowed := true, recurses := true, apart := false }
def AmoAllSaid : Prop := amoAllRow.holds Try.pinned (OpenSpec.ofChange amoAllSpec)

/-- ITS FALSE NEIGHBOUR: 'it returns false'. Refute it at one input. -/
def amoAllWrong : ChangeSpec := { name := "amoAll", fn := fun _ => fun
  | [d1, d2, d3] => { results := [.lit (.bool false)], args := [d1, d2, d3] }
  | _ => none }
def AmoAllWrongFalsely : Prop := amoAllRow.holds Try.pinned (OpenSpec.ofChange amoAllWrong)

/-- 'suzerainlaw08.AmoSwaps': WHATEVER THE INPUT: true; the input reads as it did. -/
def amoSwapsSpec : ChangeSpec := { name := "amoSwaps", fn := fun _ => fun
  | [d1, d2] => { results := [.lit (.bool true)], args := [d1, d2] }
  | _ => none }
def amoSwapsRow : OpenClaim := { program := "ytgljicadcegilaa", sum := "2212554465270653082d487e1e19d226f55436fc66402c71f87823f0f6fbf9df", func := "suzerain/suzerainlaw08.AmoSwaps", spec := "amoSwaps", unfollowed := true, recurses := true, apart := false }
def AmoSwapsSaid : Prop := amoSwapsRow.holds Try.pinned (OpenSpec.ofChange amoSwapsSpec)

/-- ITS FALSE NEIGHBOUR: 'it returns false'. Refute it at one input. -/
def amoSwapsWrong : ChangeSpec := { name := "amoSwaps", fn := fun _ => fun
  | [d1, d2] => { results := [.lit (.bool false)], args := [d1, d2] }
  | _ => none }
def AmoSwapsWrongFalsely : Prop := amoSwapsRow.holds Try.pinned (OpenSpec.ofChange amoSwapsWrong)

/-- 'suzerainlaw07.AluHalves': WHATEVER THE INPUT: true; the input reads as it did. -/
def aluHalvesSpec : ChangeSpec := { name := "aluHalves", fn := fun _ => fun
  | [d1, d2, d3] => { results := [.lit (.bool true)], args := [d1, d2, d3] }
  | _ => none }
def aluHalvesRow : OpenClaim := { program := "ytgljicadcegilaa", sum := "2212554465270653082d487e1e19d226f55436fc66402c71f87823f0f6fbf9df", func := "suzerain/suzerainlaw07.AluHalves", spec := "aluHalves", unfollowed := true, recurses := true, apart := false }
def AluHalvesSaid : Prop := aluHalvesRow.holds Try.pinned (OpenSpec.ofChange aluHalvesSpec)

/-- ITS FALSE NEIGHBOUR: 'it returns false'. Refute it at one input. -/
def aluHalvesWrong : ChangeSpec := { name := "aluHalves", fn := fun _ => fun
  | [d1, d2, d3] => { results := [.lit (.bool false)], args := [d1, d2, d3] }
  | _ => none }
def AluHalvesWrongFalsely : Prop := aluHalvesRow.holds Try.pinned (OpenSpec.ofChange aluHalvesWrong)

/-- 'suzerainlaw07.AluNumbers': WHATEVER THE INPUT: true; the input reads as it did. -/
def aluNumbersSpec : ChangeSpec := { name := "aluNumbers", fn := fun _ => fun
  | [d1, d2] => { results := [.lit (.bool true)], args := [d1, d2] }
  | _ => none }
def aluNumbersRow : OpenClaim := { program := "ytgljicadcegilaa", sum := "2212554465270653082d487e1e19d226f55436fc66402c71f87823f0f6fbf9df", func := "suzerain/suzerainlaw07.AluNumbers", spec := "aluNumbers", unfollowed := true, recurses := true, apart := false }
def AluNumbersSaid : Prop := aluNumbersRow.holds Try.pinned (OpenSpec.ofChange aluNumbersSpec)

/-- ITS FALSE NEIGHBOUR: 'it returns false'. Refute it at one input. -/
def aluNumbersWrong : ChangeSpec := { name := "aluNumbers", fn := fun _ => fun
  | [d1, d2] => { results := [.lit (.bool false)], args := [d1, d2] }
  | _ => none }
def AluNumbersWrongFalsely : Prop := aluNumbersRow.holds Try.pinned (OpenSpec.ofChange aluNumbersWrong)

/-- 'suzerainlaw07.AluDivides': WHATEVER THE INPUT: true; the input reads as it did. -/
def aluDividesSpec : ChangeSpec := { name := "aluDivides", fn := fun _ => fun
  | [d1, d2] => { results := [.lit (.bool true)], args := [d1, d2] }
  | _ => none }
def aluDividesRow : OpenClaim := { program := "ytgljicadcegilaa", sum := "2212554465270653082d487e1e19d226f55436fc66402c71f87823f0f6fbf9df", func := "suzerain/suzerainlaw07.AluDivides", spec := "aluDivides", unfollowed := true, recurses := true, apart := false }
def AluDividesSaid : Prop := aluDividesRow.holds Try.pinned (OpenSpec.ofChange aluDividesSpec)

/-- ITS FALSE NEIGHBOUR: 'it returns false'. Refute it at one input. -/
def aluDividesWrong : ChangeSpec := { name := "aluDivides", fn := fun _ => fun
  | [d1, d2] => { results := [.lit (.bool false)], args := [d1, d2] }
  | _ => none }
def AluDividesWrongFalsely : Prop := aluDividesRow.holds Try.pinned (OpenSpec.ofChange aluDividesWrong)

/-- 'suzerainlaw07.AluBranches': WHATEVER THE INPUT: true; the input reads as it did. -/
def aluBranchesSpec : ChangeSpec := { name := "aluBranches", fn := fun _ => fun
  | [d1, d2] => { results := [.lit (.bool true)], args := [d1, d2] }
  | _ => none }
def aluBranchesRow : OpenClaim := { program := "ytgljicadcegilaa", sum := "2212554465270653082d487e1e19d226f55436fc66402c71f87823f0f6fbf9df", func := "suzerain/suzerainlaw07.AluBranches", spec := "aluBranches", unfollowed := true, recurses := true, apart := false }
def AluBranchesSaid : Prop := aluBranchesRow.holds Try.pinned (OpenSpec.ofChange aluBranchesSpec)

/-- ITS FALSE NEIGHBOUR: 'it returns false'. Refute it at one input. -/
def aluBranchesWrong : ChangeSpec := { name := "aluBranches", fn := fun _ => fun
  | [d1, d2] => { results := [.lit (.bool false)], args := [d1, d2] }
  | _ => none }
def AluBranchesWrongFalsely : Prop := aluBranchesRow.holds Try.pinned (OpenSpec.ofChange aluBranchesWrong)

/-- 'suzerainlaw07.AluAll': WHATEVER THE INPUT: true; the input reads as it did. -/
def aluAllSpec : ChangeSpec := { name := "aluAll", fn := fun _ => fun
  | [d1, d2, d3] => { results := [.lit (.bool true)], args := [d1, d2, d3] }
  | _ => none }
def aluAllRow : OpenClaim := { program := "ytgljicadcegilaa", sum := "2212554465270653082d487e1e19d226f55436fc66402c71f87823f0f6fbf9df", func := "suzerain/suzerainlaw07.AluAll", spec := "aluAll", unfollowed := true, recurses := true, apart := false }
def AluAllSaid : Prop := aluAllRow.holds Try.pinned (OpenSpec.ofChange aluAllSpec)

/-- ITS FALSE NEIGHBOUR: 'it returns false'. Refute it at one input. -/
def aluAllWrong : ChangeSpec := { name := "aluAll", fn := fun _ => fun
  | [d1, d2, d3] => { results := [.lit (.bool false)], args := [d1, d2, d3] }
  | _ => none }
def AluAllWrongFalsely : Prop := aluAllRow.holds Try.pinned (OpenSpec.ofChange aluAllWrong)

/- THE SECOND FORM. 'bulk': how many values and letters a reading holds, each counted each time it is reached (what is shared counts as often as it is met; a slice's spare places count too). A statement '..UptoSaid' is the law's where the arguments, and the package variables that the reading takes, are together of bulk at most 1048576: NARROWER than '..Said'. Prove '..Said' where nothing that the law and all that it calls make is longer than what came in: it says more and counts as full. Else prove '..UptoSaid'. A law counts once. -/
mutual
def uptoBulk {H : Type} : DataW H → Nat
  | .lit (.string bytes) => bytes.length + 1
  | .lit _ => 1
  | .nil => 1
  | .ptr d => uptoBulk d + 1
  | .slice elems spare => uptoBulkAll elems + uptoBulkAll spare + 1
  | .agg parts => uptoBulkAll parts + 1
  | .iface _ d => uptoBulk d + 1
  | .map entries => uptoBulkEntries entries + 1
  | .held _ => 1
def uptoBulkAll {H : Type} : List (DataW H) → Nat
  | [] => 0
  | d :: r => uptoBulk d + uptoBulkAll r
def uptoBulkEntries {H : Type} : List (Lit × DataW H) → Nat
  | [] => 0
  | x :: r => uptoBulkEntry x + uptoBulkEntries r
def uptoBulkEntry {H : Type} : Lit × DataW H → Nat
  | (.string bytes, d) => bytes.length + uptoBulk d + 1
  | (_, d) => uptoBulk d + 1
 end
def uptoSmall : (H : Type) → List (DataW H) → Bool := fun _ ds => decide (uptoBulkAll ds ≤ 1048576)
def OpenSpec.upto (s : _root_.Go.ChangeSpec) : _root_.Go.OpenSpec := { _root_.Go.OpenSpec.ofChange s with cond := some uptoSmall }

/-- 'suzerainlaw01.WordDivides', WHERE WHAT IT READS IS OF BULK AT MOST 1048576: true; the input reads as it did. -/
def wordDividesUptoRow : OpenClaim := { program := "ytgljicadcegilaa", sum := "2212554465270653082d487e1e19d226f55436fc66402c71f87823f0f6fbf9df", func := "suzerain/suzerainlaw01.WordDivides", spec := "wordDivides", apart := false, narrowed := true }
def WordDividesUptoSaid : Prop := wordDividesUptoRow.holds Try.pinned (OpenSpec.upto wordDividesSpec)

/-- 'suzerainlaw01.WordSigns', WHERE WHAT IT READS IS OF BULK AT MOST 1048576: true; the input reads as it did. -/
def wordSignsUptoRow : OpenClaim := { program := "ytgljicadcegilaa", sum := "2212554465270653082d487e1e19d226f55436fc66402c71f87823f0f6fbf9df", func := "suzerain/suzerainlaw01.WordSigns", spec := "wordSigns", apart := false, narrowed := true }
def WordSignsUptoSaid : Prop := wordSignsUptoRow.holds Try.pinned (OpenSpec.upto wordSignsSpec)

/-- 'suzerainlaw01.WordShifts', WHERE WHAT IT READS IS OF BULK AT MOST 1048576: true; the input reads as it did. -/
def wordShiftsUptoRow : OpenClaim := { program := "ytgljicadcegilaa", sum := "2212554465270653082d487e1e19d226f55436fc66402c71f87823f0f6fbf9df", func := "suzerain/suzerainlaw01.WordShifts", spec := "wordShifts", apart := false, narrowed := true }
def WordShiftsUptoSaid : Prop := wordShiftsUptoRow.holds Try.pinned (OpenSpec.upto wordShiftsSpec)

/-- 'suzerainlaw01.WordSmall', WHERE WHAT IT READS IS OF BULK AT MOST 1048576: true; the input reads as it did. -/
def wordSmallUptoRow : OpenClaim := { program := "ytgljicadcegilaa", sum := "2212554465270653082d487e1e19d226f55436fc66402c71f87823f0f6fbf9df", func := "suzerain/suzerainlaw01.WordSmall", spec := "wordSmall", apart := false, narrowed := true }
def WordSmallUptoSaid : Prop := wordSmallUptoRow.holds Try.pinned (OpenSpec.upto wordSmallSpec)

/-- 'suzerainlaw01.WordHalves', WHERE WHAT IT READS IS OF BULK AT MOST 1048576: true; the input reads as it did. -/
def wordHalvesUptoRow : OpenClaim := { program := "ytgljicadcegilaa", sum := "2212554465270653082d487e1e19d226f55436fc66402c71f87823f0f6fbf9df", func := "suzerain/suzerainlaw01.WordHalves", spec := "wordHalves", apart := false, narrowed := true }
def WordHalvesUptoSaid : Prop := wordHalvesUptoRow.holds Try.pinned (OpenSpec.upto wordHalvesSpec)

/-- 'suzerainlaw08.AmoOne', WHERE WHAT IT READS IS OF BULK AT MOST 1048576: true; the input reads as it did. -/
def amoOneUptoRow : OpenClaim := { program := "ytgljicadcegilaa", sum := "2212554465270653082d487e1e19d226f55436fc66402c71f87823f0f6fbf9df", func := "suzerain/suzerainlaw08.AmoOne", spec := "amoOne", unfollowed := true, recurses := true, apart := false, narrowed := true }
def AmoOneUptoSaid : Prop := amoOneUptoRow.holds Try.pinned (OpenSpec.upto amoOneSpec)

/-- 'suzerainlaw08.AmoStores', WHERE WHAT IT READS IS OF BULK AT MOST 1048576: true; the input reads as it did. -/
def amoStoresUptoRow : OpenClaim := { program := "ytgljicadcegilaa", sum := "2212554465270653082d487e1e19d226f55436fc66402c71f87823f0f6fbf9df", func := "suzerain/suzerainlaw08.AmoStores", spec := "amoStores", unfollowed := true, recurses := true, apart := false, narrowed := true }
def AmoStoresUptoSaid : Prop := amoStoresUptoRow.holds Try.pinned (OpenSpec.upto amoStoresSpec)

/-- 'suzerainlaw08.AmoPlays', WHERE WHAT IT READS IS OF BULK AT MOST 1048576: true; the input reads as it did. -/
def amoPlaysUptoRow : OpenClaim := { program := "ytgljicadcegilaa", sum := "2212554465270653082d487e1e19d226f55436fc66402c71f87823f0f6fbf9df", func := "suzerain/suzerainlaw08.AmoPlays", spec := "amoPlays", unfollowed := true, recurses := true, apart := false, narrowed := true }
def AmoPlaysUptoSaid : Prop := amoPlaysUptoRow.holds Try.pinned (OpenSpec.upto amoPlaysSpec)

/-- 'suzerainlaw01.WordAll', WHERE WHAT IT READS IS OF BULK AT MOST 1048576: true; the input reads as it did. -/
def wordAllUptoRow : OpenClaim := { program := "ytgljicadcegilaa", sum := "2212554465270653082d487e1e19d226f55436fc66402c71f87823f0f6fbf9df", func := "suzerain/suzerainlaw01.WordAll", spec := "wordAll", apart := false, narrowed := true }
def WordAllUptoSaid : Prop := wordAllUptoRow.holds Try.pinned (OpenSpec.upto wordAllSpec)

/-- 'suzerainlaw08.AmoValues', WHERE WHAT IT READS IS OF BULK AT MOST 1048576: true; the input reads as it did. -/
def amoValuesUptoRow : OpenClaim := { program := "ytgljicadcegilaa", sum := "2212554465270653082d487e1e19d226f55436fc66402c71f87823f0f6fbf9df", func := "suzerain/suzerainlaw08.AmoValues", spec := "amoValues", unfollowed := true, recurses := true, apart := false, narrowed := true }
def AmoValuesUptoSaid : Prop := amoValuesUptoRow.holds Try.pinned (OpenSpec.upto amoValuesSpec)

/-- 'suzerainlaw08.AmoAll', WHERE WHAT IT READS IS OF BULK AT MOST 1048576: true; the input reads as it did. -/
def amoAllUptoRow : OpenClaim := { program := "ytgljicadcegilaa", sum := "2212554465270653082d487e1e19d226f55436fc66402c71f87823f0f6fbf9df", func := "suzerain/suzerainlaw08.AmoAll", spec := "amoAll", unfollowed := true, recurses := true, apart := false, narrowed := true }
def AmoAllUptoSaid : Prop := amoAllUptoRow.holds Try.pinned (OpenSpec.upto amoAllSpec)

/-- 'suzerainlaw08.AmoSwaps', WHERE WHAT IT READS IS OF BULK AT MOST 1048576: true; the input reads as it did. -/
def amoSwapsUptoRow : OpenClaim := { program := "ytgljicadcegilaa", sum := "2212554465270653082d487e1e19d226f55436fc66402c71f87823f0f6fbf9df", func := "suzerain/suzerainlaw08.AmoSwaps", spec := "amoSwaps", unfollowed := true, recurses := true, apart := false, narrowed := true }
def AmoSwapsUptoSaid : Prop := amoSwapsUptoRow.holds Try.pinned (OpenSpec.upto amoSwapsSpec)

/-- 'suzerainlaw07.AluHalves', WHERE WHAT IT READS IS OF BULK AT MOST 1048576: true; the input reads as it did. -/
def aluHalvesUptoRow : OpenClaim := { program := "ytgljicadcegilaa", sum := "2212554465270653082d487e1e19d226f55436fc66402c71f87823f0f6fbf9df", func := "suzerain/suzerainlaw07.AluHalves", spec := "aluHalves", unfollowed := true, recurses := true, apart := false, narrowed := true }
def AluHalvesUptoSaid : Prop := aluHalvesUptoRow.holds Try.pinned (OpenSpec.upto aluHalvesSpec)

/-- 'suzerainlaw07.AluNumbers', WHERE WHAT IT READS IS OF BULK AT MOST 1048576: true; the input reads as it did. -/
def aluNumbersUptoRow : OpenClaim := { program := "ytgljicadcegilaa", sum := "2212554465270653082d487e1e19d226f55436fc66402c71f87823f0f6fbf9df", func := "suzerain/suzerainlaw07.AluNumbers", spec := "aluNumbers", unfollowed := true, recurses := true, apart := false, narrowed := true }
def AluNumbersUptoSaid : Prop := aluNumbersUptoRow.holds Try.pinned (OpenSpec.upto aluNumbersSpec)

/-- 'suzerainlaw07.AluDivides', WHERE WHAT IT READS IS OF BULK AT MOST 1048576: true; the input reads as it did. -/
def aluDividesUptoRow : OpenClaim := { program := "ytgljicadcegilaa", sum := "2212554465270653082d487e1e19d226f55436fc66402c71f87823f0f6fbf9df", func := "suzerain/suzerainlaw07.AluDivides", spec := "aluDivides", unfollowed := true, recurses := true, apart := false, narrowed := true }
def AluDividesUptoSaid : Prop := aluDividesUptoRow.holds Try.pinned (OpenSpec.upto aluDividesSpec)

/-- 'suzerainlaw07.AluBranches', WHERE WHAT IT READS IS OF BULK AT MOST 1048576: true; the input reads as it did. -/
def aluBranchesUptoRow : OpenClaim := { program := "ytgljicadcegilaa", sum := "2212554465270653082d487e1e19d226f55436fc66402c71f87823f0f6fbf9df", func := "suzerain/suzerainlaw07.AluBranches", spec := "aluBranches", unfollowed := true, recurses := true, apart := false, narrowed := true }
def AluBranchesUptoSaid : Prop := aluBranchesUptoRow.holds Try.pinned (OpenSpec.upto aluBranchesSpec)

/-- 'suzerainlaw07.AluAll', WHERE WHAT IT READS IS OF BULK AT MOST 1048576: true; the input reads as it did. -/
def aluAllUptoRow : OpenClaim := { program := "ytgljicadcegilaa", sum := "2212554465270653082d487e1e19d226f55436fc66402c71f87823f0f6fbf9df", func := "suzerain/suzerainlaw07.AluAll", spec := "aluAll", unfollowed := true, recurses := true, apart := false, narrowed := true }
def AluAllUptoSaid : Prop := aluAllUptoRow.holds Try.pinned (OpenSpec.upto aluAllSpec)

end Rows
end Go.Proofs.Ytgljicadcegilaa
