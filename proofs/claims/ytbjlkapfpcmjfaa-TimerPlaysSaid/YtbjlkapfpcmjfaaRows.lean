/-
  No cell of these rows narrows 'for every input' (looked for: loops, veiled, ifaces, maps, wideKeys, modest, calm, conditions, laid).
  DERIVED. THE GIVEN ROWS OF THIS SEAT. 16 by the template 'for every input the law returns true; each argument reads behind the call as it read before'; 0 by the template 'total and deterministic' (their statements: YtbjlkapfpcmjfaaTotals.lean).
  GIVEN WITH THE SEED: the statements are not yours to turn. If you find one false, say at which input.
  Laid BY PROGRAM, IN A SANDBOX (cutbox-rows.mjs): the forced cells as the released guide's own fill.sh prints them over the translation 5badaed49662d5a3… (all of the seat's roots in one cut). By AI agents, Wed Nov 11 2026. No macro, syntax, notation, axiom, sorry.
-/
import Derived.Test.YtbjlkapfpcmjfaaChecked
import GoSem.Claim
import GoSem.ClaimJoined
import GoSem.ClaimMapViews
import Derived.JoinedTies
import Derived.KernelRfl
namespace Go.Proofs.Ytbjlkapfpcmjfaa
/- THE CELL 'sum', in the pinned program and in every row, IS THE sha256 OF THE DUMP (.gsa) THAT YtbjlkapfpcmjfaaProg.lean LOADS. Nothing in Lean hashes anything: it is a label: what it is worth is what the hold of that sum in a sandbox is worth. -/
noncomputable def Try.pinned : Pinned := { name := "ytbjlkapfpcmjfaa", sum := "5badaed49662d5a3ee1fa5eb3e7cacf3f982ab7a0624acdbd14dcb8eeaadcd5b", checked := Try.checked }
namespace Rows
def none {H : Type} : Left H := { results := [], args := [] }

/-- 'suzerainlaw14.TrapEnters': WHATEVER THE INPUT: true; the input reads as it did. -/
def trapEntersSpec : ChangeSpec := { name := "trapEnters", fn := fun _ => fun
  | [d1, d2] => { results := [.lit (.bool true)], args := [d1, d2] }
  | _ => none }
def trapEntersRow : OpenClaim := { program := "ytbjlkapfpcmjfaa", sum := "5badaed49662d5a3ee1fa5eb3e7cacf3f982ab7a0624acdbd14dcb8eeaadcd5b", func := "suzerain/suzerainlaw14.TrapEnters", spec := "trapEnters", apart := false }
def TrapEntersSaid : Prop := trapEntersRow.holds Try.pinned (OpenSpec.ofChange trapEntersSpec)

/-- ITS FALSE NEIGHBOUR: 'it returns false'. Refute it at one input. -/
def trapEntersWrong : ChangeSpec := { name := "trapEnters", fn := fun _ => fun
  | [d1, d2] => { results := [.lit (.bool false)], args := [d1, d2] }
  | _ => none }
def TrapEntersWrongFalsely : Prop := trapEntersRow.holds Try.pinned (OpenSpec.ofChange trapEntersWrong)

/-- 'suzerainlaw19.TimerDue': WHATEVER THE INPUT: true; the input reads as it did. -/
def timerDueSpec : ChangeSpec := { name := "timerDue", fn := fun _ => fun
  | [d1, d2, d3] => { results := [.lit (.bool true)], args := [d1, d2, d3] }
  | _ => none }
def timerDueRow : OpenClaim := { program := "ytbjlkapfpcmjfaa", sum := "5badaed49662d5a3ee1fa5eb3e7cacf3f982ab7a0624acdbd14dcb8eeaadcd5b", func := "suzerain/suzerainlaw19.TimerDue", spec := "timerDue", inPlace := ["sync/atomic.LoadUint64", "sync/atomic.StoreUint64"], apart := false }
def TimerDueSaid : Prop := timerDueRow.holds Try.pinned (OpenSpec.ofChange timerDueSpec)

/-- ITS FALSE NEIGHBOUR: 'it returns false'. Refute it at one input. -/
def timerDueWrong : ChangeSpec := { name := "timerDue", fn := fun _ => fun
  | [d1, d2, d3] => { results := [.lit (.bool false)], args := [d1, d2, d3] }
  | _ => none }
def TimerDueWrongFalsely : Prop := timerDueRow.holds Try.pinned (OpenSpec.ofChange timerDueWrong)

/-- 'suzerainlaw19.TimerSums': WHATEVER THE INPUT: true; the input reads as it did. -/
def timerSumsSpec : ChangeSpec := { name := "timerSums", fn := fun _ => fun
  | [d1, d2] => { results := [.lit (.bool true)], args := [d1, d2] }
  | _ => none }
def timerSumsRow : OpenClaim := { program := "ytbjlkapfpcmjfaa", sum := "5badaed49662d5a3ee1fa5eb3e7cacf3f982ab7a0624acdbd14dcb8eeaadcd5b", func := "suzerain/suzerainlaw19.TimerSums", spec := "timerSums", inPlace := ["sync/atomic.LoadUint64", "sync/atomic.StoreUint64"], apart := false }
def TimerSumsSaid : Prop := timerSumsRow.holds Try.pinned (OpenSpec.ofChange timerSumsSpec)

/-- ITS FALSE NEIGHBOUR: 'it returns false'. Refute it at one input. -/
def timerSumsWrong : ChangeSpec := { name := "timerSums", fn := fun _ => fun
  | [d1, d2] => { results := [.lit (.bool false)], args := [d1, d2] }
  | _ => none }
def TimerSumsWrongFalsely : Prop := timerSumsRow.holds Try.pinned (OpenSpec.ofChange timerSumsWrong)

/-- 'suzerainlaw10.PteApart': WHATEVER THE INPUT: true; the input reads as it did. -/
def pteApartSpec : ChangeSpec := { name := "pteApart", fn := fun _ => fun
  | [d1, d2] => { results := [.lit (.bool true)], args := [d1, d2] }
  | _ => none }
def pteApartRow : OpenClaim := { program := "ytbjlkapfpcmjfaa", sum := "5badaed49662d5a3ee1fa5eb3e7cacf3f982ab7a0624acdbd14dcb8eeaadcd5b", func := "suzerain/suzerainlaw10.PteApart", spec := "pteApart", unfollowed := true, recurses := true, apart := false }
def PteApartSaid : Prop := pteApartRow.holds Try.pinned (OpenSpec.ofChange pteApartSpec)

/-- ITS FALSE NEIGHBOUR: 'it returns false'. Refute it at one input. -/
def pteApartWrong : ChangeSpec := { name := "pteApart", fn := fun _ => fun
  | [d1, d2] => { results := [.lit (.bool false)], args := [d1, d2] }
  | _ => none }
def PteApartWrongFalsely : Prop := pteApartRow.holds Try.pinned (OpenSpec.ofChange pteApartWrong)

/-- 'suzerainlaw10.PteFaults': WHATEVER THE INPUT: true; the input reads as it did. -/
def pteFaultsSpec : ChangeSpec := { name := "pteFaults", fn := fun _ => fun
  | [d1, d2] => { results := [.lit (.bool true)], args := [d1, d2] }
  | _ => none }
def pteFaultsRow : OpenClaim := { program := "ytbjlkapfpcmjfaa", sum := "5badaed49662d5a3ee1fa5eb3e7cacf3f982ab7a0624acdbd14dcb8eeaadcd5b", func := "suzerain/suzerainlaw10.PteFaults", spec := "pteFaults", unfollowed := true, recurses := true, apart := false }
def PteFaultsSaid : Prop := pteFaultsRow.holds Try.pinned (OpenSpec.ofChange pteFaultsSpec)

/-- ITS FALSE NEIGHBOUR: 'it returns false'. Refute it at one input. -/
def pteFaultsWrong : ChangeSpec := { name := "pteFaults", fn := fun _ => fun
  | [d1, d2] => { results := [.lit (.bool false)], args := [d1, d2] }
  | _ => none }
def PteFaultsWrongFalsely : Prop := pteFaultsRow.holds Try.pinned (OpenSpec.ofChange pteFaultsWrong)

/-- 'suzerainlaw14.TrapTwice': WHATEVER THE INPUT: true; the input reads as it did. -/
def trapTwiceSpec : ChangeSpec := { name := "trapTwice", fn := fun _ => fun
  | [d1, d2, d3] => { results := [.lit (.bool true)], args := [d1, d2, d3] }
  | _ => none }
def trapTwiceRow : OpenClaim := { program := "ytbjlkapfpcmjfaa", sum := "5badaed49662d5a3ee1fa5eb3e7cacf3f982ab7a0624acdbd14dcb8eeaadcd5b", func := "suzerain/suzerainlaw14.TrapTwice", spec := "trapTwice", apart := false }
def TrapTwiceSaid : Prop := trapTwiceRow.holds Try.pinned (OpenSpec.ofChange trapTwiceSpec)

/-- ITS FALSE NEIGHBOUR: 'it returns false'. Refute it at one input. -/
def trapTwiceWrong : ChangeSpec := { name := "trapTwice", fn := fun _ => fun
  | [d1, d2, d3] => { results := [.lit (.bool false)], args := [d1, d2, d3] }
  | _ => none }
def TrapTwiceWrongFalsely : Prop := trapTwiceRow.holds Try.pinned (OpenSpec.ofChange trapTwiceWrong)

/-- 'suzerainlaw17.BaseSame': WHATEVER THE INPUT: true; the input reads as it did. -/
def baseSameSpec : ChangeSpec := { name := "baseSame", fn := fun _ => fun
  | [d1, d2] => { results := [.lit (.bool true)], args := [d1, d2] }
  | _ => none }
def baseSameRow : OpenClaim := { program := "ytbjlkapfpcmjfaa", sum := "5badaed49662d5a3ee1fa5eb3e7cacf3f982ab7a0624acdbd14dcb8eeaadcd5b", func := "suzerain/suzerainlaw17.BaseSame", spec := "baseSame", apart := false }
def BaseSameSaid : Prop := baseSameRow.holds Try.pinned (OpenSpec.ofChange baseSameSpec)

/-- ITS FALSE NEIGHBOUR: 'it returns false'. Refute it at one input. -/
def baseSameWrong : ChangeSpec := { name := "baseSame", fn := fun _ => fun
  | [d1, d2] => { results := [.lit (.bool false)], args := [d1, d2] }
  | _ => none }
def BaseSameWrongFalsely : Prop := baseSameRow.holds Try.pinned (OpenSpec.ofChange baseSameWrong)

/-- 'suzerainlaw14.TrapTakes': WHATEVER THE INPUT: true; the input reads as it did. -/
def trapTakesSpec : ChangeSpec := { name := "trapTakes", fn := fun _ => fun
  | [d1, d2] => { results := [.lit (.bool true)], args := [d1, d2] }
  | _ => none }
def trapTakesRow : OpenClaim := { program := "ytbjlkapfpcmjfaa", sum := "5badaed49662d5a3ee1fa5eb3e7cacf3f982ab7a0624acdbd14dcb8eeaadcd5b", func := "suzerain/suzerainlaw14.TrapTakes", spec := "trapTakes", apart := false }
def TrapTakesSaid : Prop := trapTakesRow.holds Try.pinned (OpenSpec.ofChange trapTakesSpec)

/-- ITS FALSE NEIGHBOUR: 'it returns false'. Refute it at one input. -/
def trapTakesWrong : ChangeSpec := { name := "trapTakes", fn := fun _ => fun
  | [d1, d2] => { results := [.lit (.bool false)], args := [d1, d2] }
  | _ => none }
def TrapTakesWrongFalsely : Prop := trapTakesRow.holds Try.pinned (OpenSpec.ofChange trapTakesWrong)

/-- 'suzerainlaw17.BaseAll': WHATEVER THE INPUT: true; the input reads as it did. -/
def baseAllSpec : ChangeSpec := { name := "baseAll", fn := fun _ => fun
  | [d1, d2, d3] => { results := [.lit (.bool true)], args := [d1, d2, d3] }
  | _ => none }
def baseAllRow : OpenClaim := { program := "ytbjlkapfpcmjfaa", sum := "5badaed49662d5a3ee1fa5eb3e7cacf3f982ab7a0624acdbd14dcb8eeaadcd5b", func := "suzerain/suzerainlaw17.BaseAll", spec := "baseAll", apart := false }
def BaseAllSaid : Prop := baseAllRow.holds Try.pinned (OpenSpec.ofChange baseAllSpec)

/-- ITS FALSE NEIGHBOUR: 'it returns false'. Refute it at one input. -/
def baseAllWrong : ChangeSpec := { name := "baseAll", fn := fun _ => fun
  | [d1, d2, d3] => { results := [.lit (.bool false)], args := [d1, d2, d3] }
  | _ => none }
def BaseAllWrongFalsely : Prop := baseAllRow.holds Try.pinned (OpenSpec.ofChange baseAllWrong)

/-- 'suzerainlaw17.BaseProbes': WHATEVER THE INPUT: true; the input reads as it did. -/
def baseProbesSpec : ChangeSpec := { name := "baseProbes", fn := fun _ => fun
  | [d1, d2] => { results := [.lit (.bool true)], args := [d1, d2] }
  | _ => none }
def baseProbesRow : OpenClaim := { program := "ytbjlkapfpcmjfaa", sum := "5badaed49662d5a3ee1fa5eb3e7cacf3f982ab7a0624acdbd14dcb8eeaadcd5b", func := "suzerain/suzerainlaw17.BaseProbes", spec := "baseProbes", apart := false }
def BaseProbesSaid : Prop := baseProbesRow.holds Try.pinned (OpenSpec.ofChange baseProbesSpec)

/-- ITS FALSE NEIGHBOUR: 'it returns false'. Refute it at one input. -/
def baseProbesWrong : ChangeSpec := { name := "baseProbes", fn := fun _ => fun
  | [d1, d2] => { results := [.lit (.bool false)], args := [d1, d2] }
  | _ => none }
def BaseProbesWrongFalsely : Prop := baseProbesRow.holds Try.pinned (OpenSpec.ofChange baseProbesWrong)

/-- 'suzerainlaw19.TimerNext': WHATEVER THE INPUT: true; the input reads as it did. -/
def timerNextSpec : ChangeSpec := { name := "timerNext", fn := fun _ => fun
  | [d1, d2] => { results := [.lit (.bool true)], args := [d1, d2] }
  | _ => none }
def timerNextRow : OpenClaim := { program := "ytbjlkapfpcmjfaa", sum := "5badaed49662d5a3ee1fa5eb3e7cacf3f982ab7a0624acdbd14dcb8eeaadcd5b", func := "suzerain/suzerainlaw19.TimerNext", spec := "timerNext", inPlace := ["sync/atomic.LoadUint64", "sync/atomic.StoreUint64"], apart := false }
def TimerNextSaid : Prop := timerNextRow.holds Try.pinned (OpenSpec.ofChange timerNextSpec)

/-- ITS FALSE NEIGHBOUR: 'it returns false'. Refute it at one input. -/
def timerNextWrong : ChangeSpec := { name := "timerNext", fn := fun _ => fun
  | [d1, d2] => { results := [.lit (.bool false)], args := [d1, d2] }
  | _ => none }
def TimerNextWrongFalsely : Prop := timerNextRow.holds Try.pinned (OpenSpec.ofChange timerNextWrong)

/-- 'suzerainlaw14.TrapBack': WHATEVER THE INPUT: true; the input reads as it did. -/
def trapBackSpec : ChangeSpec := { name := "trapBack", fn := fun _ => fun
  | [d1, d2] => { results := [.lit (.bool true)], args := [d1, d2] }
  | _ => none }
def trapBackRow : OpenClaim := { program := "ytbjlkapfpcmjfaa", sum := "5badaed49662d5a3ee1fa5eb3e7cacf3f982ab7a0624acdbd14dcb8eeaadcd5b", func := "suzerain/suzerainlaw14.TrapBack", spec := "trapBack", apart := false }
def TrapBackSaid : Prop := trapBackRow.holds Try.pinned (OpenSpec.ofChange trapBackSpec)

/-- ITS FALSE NEIGHBOUR: 'it returns false'. Refute it at one input. -/
def trapBackWrong : ChangeSpec := { name := "trapBack", fn := fun _ => fun
  | [d1, d2] => { results := [.lit (.bool false)], args := [d1, d2] }
  | _ => none }
def TrapBackWrongFalsely : Prop := trapBackRow.holds Try.pinned (OpenSpec.ofChange trapBackWrong)

/-- 'suzerainlaw10.PteParts': WHATEVER THE INPUT: true; the input reads as it did. -/
def ptePartsSpec : ChangeSpec := { name := "pteParts", fn := fun _ => fun
  | [d1, d2, d3] => { results := [.lit (.bool true)], args := [d1, d2, d3] }
  | _ => none }
def ptePartsRow : OpenClaim := { program := "ytbjlkapfpcmjfaa", sum := "5badaed49662d5a3ee1fa5eb3e7cacf3f982ab7a0624acdbd14dcb8eeaadcd5b", func := "suzerain/suzerainlaw10.PteParts", spec := "pteParts", unfollowed := true, recurses := true, apart := false }
def PtePartsSaid : Prop := ptePartsRow.holds Try.pinned (OpenSpec.ofChange ptePartsSpec)

/-- ITS FALSE NEIGHBOUR: 'it returns false'. Refute it at one input. -/
def ptePartsWrong : ChangeSpec := { name := "pteParts", fn := fun _ => fun
  | [d1, d2, d3] => { results := [.lit (.bool false)], args := [d1, d2, d3] }
  | _ => none }
def PtePartsWrongFalsely : Prop := ptePartsRow.holds Try.pinned (OpenSpec.ofChange ptePartsWrong)

/-- 'suzerainlaw19.TimerPlays': WHATEVER THE INPUT: true; the input reads as it did. -/
def timerPlaysSpec : ChangeSpec := { name := "timerPlays", fn := fun _ => fun
  | [d] => { results := [.lit (.bool true)], args := [d] }
  | _ => none }
def timerPlaysRow : OpenClaim := { program := "ytbjlkapfpcmjfaa", sum := "5badaed49662d5a3ee1fa5eb3e7cacf3f982ab7a0624acdbd14dcb8eeaadcd5b", func := "suzerain/suzerainlaw19.TimerPlays", spec := "timerPlays", inPlace := ["sync/atomic.LoadUint64", "sync/atomic.StoreUint64"], apart := false }
def TimerPlaysSaid : Prop := timerPlaysRow.holds Try.pinned (OpenSpec.ofChange timerPlaysSpec)

/-- ITS FALSE NEIGHBOUR: 'it returns false'. Refute it at one input. -/
def timerPlaysWrong : ChangeSpec := { name := "timerPlays", fn := fun _ => fun
  | [d] => { results := [.lit (.bool false)], args := [d] }
  | _ => none }
def TimerPlaysWrongFalsely : Prop := timerPlaysRow.holds Try.pinned (OpenSpec.ofChange timerPlaysWrong)

/-- 'suzerainlaw14.TrapAll': WHATEVER THE INPUT: true; the input reads as it did. -/
def trapAllSpec : ChangeSpec := { name := "trapAll", fn := fun _ => fun
  | [d1, d2] => { results := [.lit (.bool true)], args := [d1, d2] }
  | _ => none }
def trapAllRow : OpenClaim := { program := "ytbjlkapfpcmjfaa", sum := "5badaed49662d5a3ee1fa5eb3e7cacf3f982ab7a0624acdbd14dcb8eeaadcd5b", func := "suzerain/suzerainlaw14.TrapAll", spec := "trapAll", apart := false }
def TrapAllSaid : Prop := trapAllRow.holds Try.pinned (OpenSpec.ofChange trapAllSpec)

/-- ITS FALSE NEIGHBOUR: 'it returns false'. Refute it at one input. -/
def trapAllWrong : ChangeSpec := { name := "trapAll", fn := fun _ => fun
  | [d1, d2] => { results := [.lit (.bool false)], args := [d1, d2] }
  | _ => none }
def TrapAllWrongFalsely : Prop := trapAllRow.holds Try.pinned (OpenSpec.ofChange trapAllWrong)

/-- 'suzerainlaw10.PteAll': WHATEVER THE INPUT: true; the input reads as it did. -/
def pteAllSpec : ChangeSpec := { name := "pteAll", fn := fun _ => fun
  | [d1, d2, d3] => { results := [.lit (.bool true)], args := [d1, d2, d3] }
  | _ => none }
def pteAllRow : OpenClaim := { program := "ytbjlkapfpcmjfaa", sum := "5badaed49662d5a3ee1fa5eb3e7cacf3f982ab7a0624acdbd14dcb8eeaadcd5b", func := "suzerain/suzerainlaw10.PteAll", spec := "pteAll", unfollowed := true, recurses := true, apart := false }
def PteAllSaid : Prop := pteAllRow.holds Try.pinned (OpenSpec.ofChange pteAllSpec)

/-- ITS FALSE NEIGHBOUR: 'it returns false'. Refute it at one input. -/
def pteAllWrong : ChangeSpec := { name := "pteAll", fn := fun _ => fun
  | [d1, d2, d3] => { results := [.lit (.bool false)], args := [d1, d2, d3] }
  | _ => none }
def PteAllWrongFalsely : Prop := pteAllRow.holds Try.pinned (OpenSpec.ofChange pteAllWrong)

/- THE SECOND FORM. 'bulk': how many values and letters a reading holds, each counted each time it is reached (what is shared counts as often as it is met; a slice's spare places count too). A statement '..UptoSaid' is the law's where the arguments, and the package variables that the reading takes, are together of bulk at most 1048576: NARROWER than '..Said'. Prove '..Said' where nothing that the law and all that it calls make is longer than what came in: it says more and counts as full. Else prove '..UptoSaid'. A law counts once. -/
mutual
def uptoBulk {H : Type} : DataW H → Nat
  | .lit (.string bytes) => bytes.length + 1
  | .lit _ => 1
  | .nil => 1
  | .ptr d => uptoBulk d + 1
  | .slice elems spare => uptoBulkAll elems + uptoBulkAll spare + 1
  | .agg parts => uptoBulkAll parts + 1
  | .iface _ d => uptoBulk d + 1
  | .map entries => uptoBulkEntries entries + 1
  | .held _ => 1
def uptoBulkAll {H : Type} : List (DataW H) → Nat
  | [] => 0
  | d :: r => uptoBulk d + uptoBulkAll r
def uptoBulkEntries {H : Type} : List (Lit × DataW H) → Nat
  | [] => 0
  | x :: r => uptoBulkEntry x + uptoBulkEntries r
def uptoBulkEntry {H : Type} : Lit × DataW H → Nat
  | (.string bytes, d) => bytes.length + uptoBulk d + 1
  | (_, d) => uptoBulk d + 1
 end
def uptoSmall : (H : Type) → List (DataW H) → Bool := fun _ ds => decide (uptoBulkAll ds ≤ 1048576)
def OpenSpec.upto (s : _root_.Go.ChangeSpec) : _root_.Go.OpenSpec := { _root_.Go.OpenSpec.ofChange s with cond := some uptoSmall }

/-- 'suzerainlaw14.TrapEnters', WHERE WHAT IT READS IS OF BULK AT MOST 1048576: true; the input reads as it did. -/
def trapEntersUptoRow : OpenClaim := { program := "ytbjlkapfpcmjfaa", sum := "5badaed49662d5a3ee1fa5eb3e7cacf3f982ab7a0624acdbd14dcb8eeaadcd5b", func := "suzerain/suzerainlaw14.TrapEnters", spec := "trapEnters", apart := false, narrowed := true }
def TrapEntersUptoSaid : Prop := trapEntersUptoRow.holds Try.pinned (OpenSpec.upto trapEntersSpec)

/-- 'suzerainlaw19.TimerDue', WHERE WHAT IT READS IS OF BULK AT MOST 1048576: true; the input reads as it did. -/
def timerDueUptoRow : OpenClaim := { program := "ytbjlkapfpcmjfaa", sum := "5badaed49662d5a3ee1fa5eb3e7cacf3f982ab7a0624acdbd14dcb8eeaadcd5b", func := "suzerain/suzerainlaw19.TimerDue", spec := "timerDue", inPlace := ["sync/atomic.LoadUint64", "sync/atomic.StoreUint64"], apart := false, narrowed := true }
def TimerDueUptoSaid : Prop := timerDueUptoRow.holds Try.pinned (OpenSpec.upto timerDueSpec)

/-- 'suzerainlaw19.TimerSums', WHERE WHAT IT READS IS OF BULK AT MOST 1048576: true; the input reads as it did. -/
def timerSumsUptoRow : OpenClaim := { program := "ytbjlkapfpcmjfaa", sum := "5badaed49662d5a3ee1fa5eb3e7cacf3f982ab7a0624acdbd14dcb8eeaadcd5b", func := "suzerain/suzerainlaw19.TimerSums", spec := "timerSums", inPlace := ["sync/atomic.LoadUint64", "sync/atomic.StoreUint64"], apart := false, narrowed := true }
def TimerSumsUptoSaid : Prop := timerSumsUptoRow.holds Try.pinned (OpenSpec.upto timerSumsSpec)

/-- 'suzerainlaw10.PteApart', WHERE WHAT IT READS IS OF BULK AT MOST 1048576: true; the input reads as it did. -/
def pteApartUptoRow : OpenClaim := { program := "ytbjlkapfpcmjfaa", sum := "5badaed49662d5a3ee1fa5eb3e7cacf3f982ab7a0624acdbd14dcb8eeaadcd5b", func := "suzerain/suzerainlaw10.PteApart", spec := "pteApart", unfollowed := true, recurses := true, apart := false, narrowed := true }
def PteApartUptoSaid : Prop := pteApartUptoRow.holds Try.pinned (OpenSpec.upto pteApartSpec)

/-- 'suzerainlaw10.PteFaults', WHERE WHAT IT READS IS OF BULK AT MOST 1048576: true; the input reads as it did. -/
def pteFaultsUptoRow : OpenClaim := { program := "ytbjlkapfpcmjfaa", sum := "5badaed49662d5a3ee1fa5eb3e7cacf3f982ab7a0624acdbd14dcb8eeaadcd5b", func := "suzerain/suzerainlaw10.PteFaults", spec := "pteFaults", unfollowed := true, recurses := true, apart := false, narrowed := true }
def PteFaultsUptoSaid : Prop := pteFaultsUptoRow.holds Try.pinned (OpenSpec.upto pteFaultsSpec)

/-- 'suzerainlaw14.TrapTwice', WHERE WHAT IT READS IS OF BULK AT MOST 1048576: true; the input reads as it did. -/
def trapTwiceUptoRow : OpenClaim := { program := "ytbjlkapfpcmjfaa", sum := "5badaed49662d5a3ee1fa5eb3e7cacf3f982ab7a0624acdbd14dcb8eeaadcd5b", func := "suzerain/suzerainlaw14.TrapTwice", spec := "trapTwice", apart := false, narrowed := true }
def TrapTwiceUptoSaid : Prop := trapTwiceUptoRow.holds Try.pinned (OpenSpec.upto trapTwiceSpec)

/-- 'suzerainlaw17.BaseSame', WHERE WHAT IT READS IS OF BULK AT MOST 1048576: true; the input reads as it did. -/
def baseSameUptoRow : OpenClaim := { program := "ytbjlkapfpcmjfaa", sum := "5badaed49662d5a3ee1fa5eb3e7cacf3f982ab7a0624acdbd14dcb8eeaadcd5b", func := "suzerain/suzerainlaw17.BaseSame", spec := "baseSame", apart := false, narrowed := true }
def BaseSameUptoSaid : Prop := baseSameUptoRow.holds Try.pinned (OpenSpec.upto baseSameSpec)

/-- 'suzerainlaw14.TrapTakes', WHERE WHAT IT READS IS OF BULK AT MOST 1048576: true; the input reads as it did. -/
def trapTakesUptoRow : OpenClaim := { program := "ytbjlkapfpcmjfaa", sum := "5badaed49662d5a3ee1fa5eb3e7cacf3f982ab7a0624acdbd14dcb8eeaadcd5b", func := "suzerain/suzerainlaw14.TrapTakes", spec := "trapTakes", apart := false, narrowed := true }
def TrapTakesUptoSaid : Prop := trapTakesUptoRow.holds Try.pinned (OpenSpec.upto trapTakesSpec)

/-- 'suzerainlaw17.BaseAll', WHERE WHAT IT READS IS OF BULK AT MOST 1048576: true; the input reads as it did. -/
def baseAllUptoRow : OpenClaim := { program := "ytbjlkapfpcmjfaa", sum := "5badaed49662d5a3ee1fa5eb3e7cacf3f982ab7a0624acdbd14dcb8eeaadcd5b", func := "suzerain/suzerainlaw17.BaseAll", spec := "baseAll", apart := false, narrowed := true }
def BaseAllUptoSaid : Prop := baseAllUptoRow.holds Try.pinned (OpenSpec.upto baseAllSpec)

/-- 'suzerainlaw17.BaseProbes', WHERE WHAT IT READS IS OF BULK AT MOST 1048576: true; the input reads as it did. -/
def baseProbesUptoRow : OpenClaim := { program := "ytbjlkapfpcmjfaa", sum := "5badaed49662d5a3ee1fa5eb3e7cacf3f982ab7a0624acdbd14dcb8eeaadcd5b", func := "suzerain/suzerainlaw17.BaseProbes", spec := "baseProbes", apart := false, narrowed := true }
def BaseProbesUptoSaid : Prop := baseProbesUptoRow.holds Try.pinned (OpenSpec.upto baseProbesSpec)

/-- 'suzerainlaw19.TimerNext', WHERE WHAT IT READS IS OF BULK AT MOST 1048576: true; the input reads as it did. -/
def timerNextUptoRow : OpenClaim := { program := "ytbjlkapfpcmjfaa", sum := "5badaed49662d5a3ee1fa5eb3e7cacf3f982ab7a0624acdbd14dcb8eeaadcd5b", func := "suzerain/suzerainlaw19.TimerNext", spec := "timerNext", inPlace := ["sync/atomic.LoadUint64", "sync/atomic.StoreUint64"], apart := false, narrowed := true }
def TimerNextUptoSaid : Prop := timerNextUptoRow.holds Try.pinned (OpenSpec.upto timerNextSpec)

/-- 'suzerainlaw14.TrapBack', WHERE WHAT IT READS IS OF BULK AT MOST 1048576: true; the input reads as it did. -/
def trapBackUptoRow : OpenClaim := { program := "ytbjlkapfpcmjfaa", sum := "5badaed49662d5a3ee1fa5eb3e7cacf3f982ab7a0624acdbd14dcb8eeaadcd5b", func := "suzerain/suzerainlaw14.TrapBack", spec := "trapBack", apart := false, narrowed := true }
def TrapBackUptoSaid : Prop := trapBackUptoRow.holds Try.pinned (OpenSpec.upto trapBackSpec)

/-- 'suzerainlaw10.PteParts', WHERE WHAT IT READS IS OF BULK AT MOST 1048576: true; the input reads as it did. -/
def ptePartsUptoRow : OpenClaim := { program := "ytbjlkapfpcmjfaa", sum := "5badaed49662d5a3ee1fa5eb3e7cacf3f982ab7a0624acdbd14dcb8eeaadcd5b", func := "suzerain/suzerainlaw10.PteParts", spec := "pteParts", unfollowed := true, recurses := true, apart := false, narrowed := true }
def PtePartsUptoSaid : Prop := ptePartsUptoRow.holds Try.pinned (OpenSpec.upto ptePartsSpec)

/-- 'suzerainlaw19.TimerPlays', WHERE WHAT IT READS IS OF BULK AT MOST 1048576: true; the input reads as it did. -/
def timerPlaysUptoRow : OpenClaim := { program := "ytbjlkapfpcmjfaa", sum := "5badaed49662d5a3ee1fa5eb3e7cacf3f982ab7a0624acdbd14dcb8eeaadcd5b", func := "suzerain/suzerainlaw19.TimerPlays", spec := "timerPlays", inPlace := ["sync/atomic.LoadUint64", "sync/atomic.StoreUint64"], apart := false, narrowed := true }
def TimerPlaysUptoSaid : Prop := timerPlaysUptoRow.holds Try.pinned (OpenSpec.upto timerPlaysSpec)

/-- 'suzerainlaw14.TrapAll', WHERE WHAT IT READS IS OF BULK AT MOST 1048576: true; the input reads as it did. -/
def trapAllUptoRow : OpenClaim := { program := "ytbjlkapfpcmjfaa", sum := "5badaed49662d5a3ee1fa5eb3e7cacf3f982ab7a0624acdbd14dcb8eeaadcd5b", func := "suzerain/suzerainlaw14.TrapAll", spec := "trapAll", apart := false, narrowed := true }
def TrapAllUptoSaid : Prop := trapAllUptoRow.holds Try.pinned (OpenSpec.upto trapAllSpec)

/-- 'suzerainlaw10.PteAll', WHERE WHAT IT READS IS OF BULK AT MOST 1048576: true; the input reads as it did. -/
def pteAllUptoRow : OpenClaim := { program := "ytbjlkapfpcmjfaa", sum := "5badaed49662d5a3ee1fa5eb3e7cacf3f982ab7a0624acdbd14dcb8eeaadcd5b", func := "suzerain/suzerainlaw10.PteAll", spec := "pteAll", unfollowed := true, recurses := true, apart := false, narrowed := true }
def PteAllUptoSaid : Prop := pteAllUptoRow.holds Try.pinned (OpenSpec.upto pteAllSpec)

end Rows
end Go.Proofs.Ytbjlkapfpcmjfaa
