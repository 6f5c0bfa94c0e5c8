/-
  No cell of these rows narrows 'for every input' (looked for: loops, veiled, ifaces, maps, wideKeys, modest, calm, conditions, laid).
  DERIVED. THE GIVEN ROWS OF THIS SEAT. 20 by the template 'for every input the law returns true; each argument reads behind the call as it read before'; 0 by the template 'total and deterministic' (their statements: YtngcbpcfgolifaaTotals.lean).
  GIVEN WITH THE SEED: the statements are not yours to turn. If you find one false, say at which input.
  Laid BY PROGRAM, IN A SANDBOX (cutbox-rows.mjs): the forced cells as the released guide's own fill.sh prints them over the translation 8ef8942892d7a494… (all of the seat's roots in one cut). By AI agents, Wed Nov 11 2026. No macro, syntax, notation, axiom, sorry.
-/
import Derived.Test.YtngcbpcfgolifaaChecked
import GoSem.Claim
import GoSem.ClaimJoined
import GoSem.ClaimMapViews
import Derived.JoinedTies
import Derived.KernelRfl
namespace Go.Proofs.Ytngcbpcfgolifaa
/- THE CELL 'sum', in the pinned program and in every row, IS THE sha256 OF THE DUMP (.gsa) THAT YtngcbpcfgolifaaProg.lean LOADS. Nothing in Lean hashes anything: it is a label: what it is worth is what the hold of that sum in a sandbox is worth. -/
noncomputable def Try.pinned : Pinned := { name := "ytngcbpcfgolifaa", sum := "8ef8942892d7a49413c255d74e3cb8af7eed5271812e90f8a5ea92b25108c5ba", checked := Try.checked }
namespace Rows
def none {H : Type} : Left H := { results := [], args := [] }

/-- 'suzerainlaw12.TlbOrder': WHATEVER THE INPUT: true; the input reads as it did. -/
def tlbOrderSpec : ChangeSpec := { name := "tlbOrder", fn := fun _ => fun
  | [d1, d2, d3] => { results := [.lit (.bool true)], args := [d1, d2, d3] }
  | _ => none }
def tlbOrderRow : OpenClaim := { program := "ytngcbpcfgolifaa", sum := "8ef8942892d7a49413c255d74e3cb8af7eed5271812e90f8a5ea92b25108c5ba", func := "suzerain/suzerainlaw12.TlbOrder", spec := "tlbOrder", unfollowed := true, recurses := true, apart := false }
def TlbOrderSaid : Prop := tlbOrderRow.holds Try.pinned (OpenSpec.ofChange tlbOrderSpec)

/-- ITS FALSE NEIGHBOUR: 'it returns false'. Refute it at one input. -/
def tlbOrderWrong : ChangeSpec := { name := "tlbOrder", fn := fun _ => fun
  | [d1, d2, d3] => { results := [.lit (.bool false)], args := [d1, d2, d3] }
  | _ => none }
def TlbOrderWrongFalsely : Prop := tlbOrderRow.holds Try.pinned (OpenSpec.ofChange tlbOrderWrong)

/-- 'suzerainlaw02.RamClones': WHATEVER THE INPUT: true; the input reads as it did. -/
def ramClonesSpec : ChangeSpec := { name := "ramClones", fn := fun _ => fun
  | [d1, d2, d3] => { results := [.lit (.bool true)], args := [d1, d2, d3] }
  | _ => none }
def ramClonesRow : OpenClaim := { program := "ytngcbpcfgolifaa", sum := "8ef8942892d7a49413c255d74e3cb8af7eed5271812e90f8a5ea92b25108c5ba", func := "suzerain/suzerainlaw02.RamClones", spec := "ramClones", apart := false }
def RamClonesSaid : Prop := ramClonesRow.holds Try.pinned (OpenSpec.ofChange ramClonesSpec)

/-- ITS FALSE NEIGHBOUR: 'it returns false'. Refute it at one input. -/
def ramClonesWrong : ChangeSpec := { name := "ramClones", fn := fun _ => fun
  | [d1, d2, d3] => { results := [.lit (.bool false)], args := [d1, d2, d3] }
  | _ => none }
def RamClonesWrongFalsely : Prop := ramClonesRow.holds Try.pinned (OpenSpec.ofChange ramClonesWrong)

/-- 'suzerainlaw02.RamKeeps': WHATEVER THE INPUT: true; the input reads as it did. -/
def ramKeepsSpec : ChangeSpec := { name := "ramKeeps", fn := fun _ => fun
  | [d1, d2, d3] => { results := [.lit (.bool true)], args := [d1, d2, d3] }
  | _ => none }
def ramKeepsRow : OpenClaim := { program := "ytngcbpcfgolifaa", sum := "8ef8942892d7a49413c255d74e3cb8af7eed5271812e90f8a5ea92b25108c5ba", func := "suzerain/suzerainlaw02.RamKeeps", spec := "ramKeeps", apart := false }
def RamKeepsSaid : Prop := ramKeepsRow.holds Try.pinned (OpenSpec.ofChange ramKeepsSpec)

/-- ITS FALSE NEIGHBOUR: 'it returns false'. Refute it at one input. -/
def ramKeepsWrong : ChangeSpec := { name := "ramKeeps", fn := fun _ => fun
  | [d1, d2, d3] => { results := [.lit (.bool false)], args := [d1, d2, d3] }
  | _ => none }
def RamKeepsWrongFalsely : Prop := ramKeepsRow.holds Try.pinned (OpenSpec.ofChange ramKeepsWrong)

/-- 'suzerainlaw02.RamBytes': WHATEVER THE INPUT: true; the input reads as it did. -/
def ramBytesSpec : ChangeSpec := { name := "ramBytes", fn := fun _ => fun
  | [d1, d2, d3] => { results := [.lit (.bool true)], args := [d1, d2, d3] }
  | _ => none }
def ramBytesRow : OpenClaim := { program := "ytngcbpcfgolifaa", sum := "8ef8942892d7a49413c255d74e3cb8af7eed5271812e90f8a5ea92b25108c5ba", func := "suzerain/suzerainlaw02.RamBytes", spec := "ramBytes", apart := false }
def RamBytesSaid : Prop := ramBytesRow.holds Try.pinned (OpenSpec.ofChange ramBytesSpec)

/-- ITS FALSE NEIGHBOUR: 'it returns false'. Refute it at one input. -/
def ramBytesWrong : ChangeSpec := { name := "ramBytes", fn := fun _ => fun
  | [d1, d2, d3] => { results := [.lit (.bool false)], args := [d1, d2, d3] }
  | _ => none }
def RamBytesWrongFalsely : Prop := ramBytesRow.holds Try.pinned (OpenSpec.ofChange ramBytesWrong)

/-- 'suzerainlaw02.RamPlays': WHATEVER THE INPUT: true; the input reads as it did. -/
def ramPlaysSpec : ChangeSpec := { name := "ramPlays", fn := fun _ => fun
  | [d1, d2] => { results := [.lit (.bool true)], args := [d1, d2] }
  | _ => none }
def ramPlaysRow : OpenClaim := { program := "ytngcbpcfgolifaa", sum := "8ef8942892d7a49413c255d74e3cb8af7eed5271812e90f8a5ea92b25108c5ba", func := "suzerain/suzerainlaw02.RamPlays", spec := "ramPlays", apart := false }
def RamPlaysSaid : Prop := ramPlaysRow.holds Try.pinned (OpenSpec.ofChange ramPlaysSpec)

/-- ITS FALSE NEIGHBOUR: 'it returns false'. Refute it at one input. -/
def ramPlaysWrong : ChangeSpec := { name := "ramPlays", fn := fun _ => fun
  | [d1, d2] => { results := [.lit (.bool false)], args := [d1, d2] }
  | _ => none }
def RamPlaysWrongFalsely : Prop := ramPlaysRow.holds Try.pinned (OpenSpec.ofChange ramPlaysWrong)

/-- 'suzerainlaw11.WalkAll': WHATEVER THE INPUT: true; the input reads as it did. -/
def walkAllSpec : ChangeSpec := { name := "walkAll", fn := fun _ => fun
  | [d1, d2] => { results := [.lit (.bool true)], args := [d1, d2] }
  | _ => none }
def walkAllRow : OpenClaim := { program := "ytngcbpcfgolifaa", sum := "8ef8942892d7a49413c255d74e3cb8af7eed5271812e90f8a5ea92b25108c5ba", func := "suzerain/suzerainlaw11.WalkAll", spec := "walkAll", unfollowed := true, recurses := true, apart := false }
def WalkAllSaid : Prop := walkAllRow.holds Try.pinned (OpenSpec.ofChange walkAllSpec)

/-- ITS FALSE NEIGHBOUR: 'it returns false'. Refute it at one input. -/
def walkAllWrong : ChangeSpec := { name := "walkAll", fn := fun _ => fun
  | [d1, d2] => { results := [.lit (.bool false)], args := [d1, d2] }
  | _ => none }
def WalkAllWrongFalsely : Prop := walkAllRow.holds Try.pinned (OpenSpec.ofChange walkAllWrong)

/-- 'suzerainlaw11.WalkReads': WHATEVER THE INPUT: true; the input reads as it did. -/
def walkReadsSpec : ChangeSpec := { name := "walkReads", fn := fun _ => fun
  | [d1, d2] => { results := [.lit (.bool true)], args := [d1, d2] }
  | _ => none }
def walkReadsRow : OpenClaim := { program := "ytngcbpcfgolifaa", sum := "8ef8942892d7a49413c255d74e3cb8af7eed5271812e90f8a5ea92b25108c5ba", func := "suzerain/suzerainlaw11.WalkReads", spec := "walkReads", unfollowed := true, recurses := true, apart := false }
def WalkReadsSaid : Prop := walkReadsRow.holds Try.pinned (OpenSpec.ofChange walkReadsSpec)

/-- ITS FALSE NEIGHBOUR: 'it returns false'. Refute it at one input. -/
def walkReadsWrong : ChangeSpec := { name := "walkReads", fn := fun _ => fun
  | [d1, d2] => { results := [.lit (.bool false)], args := [d1, d2] }
  | _ => none }
def WalkReadsWrongFalsely : Prop := walkReadsRow.holds Try.pinned (OpenSpec.ofChange walkReadsWrong)

/-- 'suzerainlaw11.WalkOffsets': WHATEVER THE INPUT: true; the input reads as it did. -/
def walkOffsetsSpec : ChangeSpec := { name := "walkOffsets", fn := fun _ => fun
  | [d1, d2, d3] => { results := [.lit (.bool true)], args := [d1, d2, d3] }
  | _ => none }
def walkOffsetsRow : OpenClaim := { program := "ytngcbpcfgolifaa", sum := "8ef8942892d7a49413c255d74e3cb8af7eed5271812e90f8a5ea92b25108c5ba", func := "suzerain/suzerainlaw11.WalkOffsets", spec := "walkOffsets", unfollowed := true, recurses := true, apart := false }
def WalkOffsetsSaid : Prop := walkOffsetsRow.holds Try.pinned (OpenSpec.ofChange walkOffsetsSpec)

/-- ITS FALSE NEIGHBOUR: 'it returns false'. Refute it at one input. -/
def walkOffsetsWrong : ChangeSpec := { name := "walkOffsets", fn := fun _ => fun
  | [d1, d2, d3] => { results := [.lit (.bool false)], args := [d1, d2, d3] }
  | _ => none }
def WalkOffsetsWrongFalsely : Prop := walkOffsetsRow.holds Try.pinned (OpenSpec.ofChange walkOffsetsWrong)

/-- 'suzerainlaw11.WalkLevels': WHATEVER THE INPUT: true; the input reads as it did. -/
def walkLevelsSpec : ChangeSpec := { name := "walkLevels", fn := fun _ => fun
  | [d1, d2, d3] => { results := [.lit (.bool true)], args := [d1, d2, d3] }
  | _ => none }
def walkLevelsRow : OpenClaim := { program := "ytngcbpcfgolifaa", sum := "8ef8942892d7a49413c255d74e3cb8af7eed5271812e90f8a5ea92b25108c5ba", func := "suzerain/suzerainlaw11.WalkLevels", spec := "walkLevels", unfollowed := true, recurses := true, apart := false }
def WalkLevelsSaid : Prop := walkLevelsRow.holds Try.pinned (OpenSpec.ofChange walkLevelsSpec)

/-- ITS FALSE NEIGHBOUR: 'it returns false'. Refute it at one input. -/
def walkLevelsWrong : ChangeSpec := { name := "walkLevels", fn := fun _ => fun
  | [d1, d2, d3] => { results := [.lit (.bool false)], args := [d1, d2, d3] }
  | _ => none }
def WalkLevelsWrongFalsely : Prop := walkLevelsRow.holds Try.pinned (OpenSpec.ofChange walkLevelsWrong)

/-- 'suzerainlaw11.WalkMay': WHATEVER THE INPUT: true; the input reads as it did. -/
def walkMaySpec : ChangeSpec := { name := "walkMay", fn := fun _ => fun
  | [d1, d2] => { results := [.lit (.bool true)], args := [d1, d2] }
  | _ => none }
def walkMayRow : OpenClaim := { program := "ytngcbpcfgolifaa", sum := "8ef8942892d7a49413c255d74e3cb8af7eed5271812e90f8a5ea92b25108c5ba", func := "suzerain/suzerainlaw11.WalkMay", spec := "walkMay", unfollowed := true, recurses := true, apart := false }
def WalkMaySaid : Prop := walkMayRow.holds Try.pinned (OpenSpec.ofChange walkMaySpec)

/-- ITS FALSE NEIGHBOUR: 'it returns false'. Refute it at one input. -/
def walkMayWrong : ChangeSpec := { name := "walkMay", fn := fun _ => fun
  | [d1, d2] => { results := [.lit (.bool false)], args := [d1, d2] }
  | _ => none }
def WalkMayWrongFalsely : Prop := walkMayRow.holds Try.pinned (OpenSpec.ofChange walkMayWrong)

/-- 'suzerainlaw12.TlbMisses': WHATEVER THE INPUT: true; the input reads as it did. -/
def tlbMissesSpec : ChangeSpec := { name := "tlbMisses", fn := fun _ => fun
  | [d1, d2] => { results := [.lit (.bool true)], args := [d1, d2] }
  | _ => none }
def tlbMissesRow : OpenClaim := { program := "ytngcbpcfgolifaa", sum := "8ef8942892d7a49413c255d74e3cb8af7eed5271812e90f8a5ea92b25108c5ba", func := "suzerain/suzerainlaw12.TlbMisses", spec := "tlbMisses", inPlace := ["sync/atomic.AddUint64", "sync/atomic.LoadUint64"], unfollowed := true, recurses := true, apart := false }
def TlbMissesSaid : Prop := tlbMissesRow.holds Try.pinned (OpenSpec.ofChange tlbMissesSpec)

/-- ITS FALSE NEIGHBOUR: 'it returns false'. Refute it at one input. -/
def tlbMissesWrong : ChangeSpec := { name := "tlbMisses", fn := fun _ => fun
  | [d1, d2] => { results := [.lit (.bool false)], args := [d1, d2] }
  | _ => none }
def TlbMissesWrongFalsely : Prop := tlbMissesRow.holds Try.pinned (OpenSpec.ofChange tlbMissesWrong)

/-- 'suzerainlaw12.TlbWalks': WHATEVER THE INPUT: true; the input reads as it did. -/
def tlbWalksSpec : ChangeSpec := { name := "tlbWalks", fn := fun _ => fun
  | [d1, d2, d3] => { results := [.lit (.bool true)], args := [d1, d2, d3] }
  | _ => none }
def tlbWalksRow : OpenClaim := { program := "ytngcbpcfgolifaa", sum := "8ef8942892d7a49413c255d74e3cb8af7eed5271812e90f8a5ea92b25108c5ba", func := "suzerain/suzerainlaw12.TlbWalks", spec := "tlbWalks", inPlace := ["sync/atomic.AddUint64"], unfollowed := true, recurses := true, apart := false }
def TlbWalksSaid : Prop := tlbWalksRow.holds Try.pinned (OpenSpec.ofChange tlbWalksSpec)

/-- ITS FALSE NEIGHBOUR: 'it returns false'. Refute it at one input. -/
def tlbWalksWrong : ChangeSpec := { name := "tlbWalks", fn := fun _ => fun
  | [d1, d2, d3] => { results := [.lit (.bool false)], args := [d1, d2, d3] }
  | _ => none }
def TlbWalksWrongFalsely : Prop := tlbWalksRow.holds Try.pinned (OpenSpec.ofChange tlbWalksWrong)

/-- 'suzerainlaw12.TlbPlays': WHATEVER THE INPUT: true; the input reads as it did. -/
def tlbPlaysSpec : ChangeSpec := { name := "tlbPlays", fn := fun _ => fun
  | [d1, d2, d3] => { results := [.lit (.bool true)], args := [d1, d2, d3] }
  | _ => none }
def tlbPlaysRow : OpenClaim := { program := "ytngcbpcfgolifaa", sum := "8ef8942892d7a49413c255d74e3cb8af7eed5271812e90f8a5ea92b25108c5ba", func := "suzerain/suzerainlaw12.TlbPlays", spec := "tlbPlays", inPlace := ["sync/atomic.AddUint64", "sync/atomic.LoadUint64", "sync/atomic.StoreUint64"], unfollowed := true, recurses := true, apart := false }
def TlbPlaysSaid : Prop := tlbPlaysRow.holds Try.pinned (OpenSpec.ofChange tlbPlaysSpec)

/-- ITS FALSE NEIGHBOUR: 'it returns false'. Refute it at one input. -/
def tlbPlaysWrong : ChangeSpec := { name := "tlbPlays", fn := fun _ => fun
  | [d1, d2, d3] => { results := [.lit (.bool false)], args := [d1, d2, d3] }
  | _ => none }
def TlbPlaysWrongFalsely : Prop := tlbPlaysRow.holds Try.pinned (OpenSpec.ofChange tlbPlaysWrong)

/-- 'suzerainlaw12.TlbFences': WHATEVER THE INPUT: true; the input reads as it did. -/
def tlbFencesSpec : ChangeSpec := { name := "tlbFences", fn := fun _ => fun
  | [d1, d2, d3] => { results := [.lit (.bool true)], args := [d1, d2, d3] }
  | _ => none }
def tlbFencesRow : OpenClaim := { program := "ytngcbpcfgolifaa", sum := "8ef8942892d7a49413c255d74e3cb8af7eed5271812e90f8a5ea92b25108c5ba", func := "suzerain/suzerainlaw12.TlbFences", spec := "tlbFences", inPlace := ["sync/atomic.AddUint64", "sync/atomic.LoadUint64", "sync/atomic.StoreUint64"], unfollowed := true, recurses := true, apart := false }
def TlbFencesSaid : Prop := tlbFencesRow.holds Try.pinned (OpenSpec.ofChange tlbFencesSpec)

/-- ITS FALSE NEIGHBOUR: 'it returns false'. Refute it at one input. -/
def tlbFencesWrong : ChangeSpec := { name := "tlbFences", fn := fun _ => fun
  | [d1, d2, d3] => { results := [.lit (.bool false)], args := [d1, d2, d3] }
  | _ => none }
def TlbFencesWrongFalsely : Prop := tlbFencesRow.holds Try.pinned (OpenSpec.ofChange tlbFencesWrong)

/-- 'suzerainlaw13.SpaceBytes': WHATEVER THE INPUT: true; the input reads as it did. -/
def spaceBytesSpec : ChangeSpec := { name := "spaceBytes", fn := fun _ => fun
  | [d1, d2] => { results := [.lit (.bool true)], args := [d1, d2] }
  | _ => none }
def spaceBytesRow : OpenClaim := { program := "ytngcbpcfgolifaa", sum := "8ef8942892d7a49413c255d74e3cb8af7eed5271812e90f8a5ea92b25108c5ba", func := "suzerain/suzerainlaw13.SpaceBytes", spec := "spaceBytes", inPlace := ["sync/atomic.AddUint64"], unfollowed := true, recurses := true, apart := false }
def SpaceBytesSaid : Prop := spaceBytesRow.holds Try.pinned (OpenSpec.ofChange spaceBytesSpec)

/-- ITS FALSE NEIGHBOUR: 'it returns false'. Refute it at one input. -/
def spaceBytesWrong : ChangeSpec := { name := "spaceBytes", fn := fun _ => fun
  | [d1, d2] => { results := [.lit (.bool false)], args := [d1, d2] }
  | _ => none }
def SpaceBytesWrongFalsely : Prop := spaceBytesRow.holds Try.pinned (OpenSpec.ofChange spaceBytesWrong)

/-- 'suzerainlaw13.SpaceAligned': WHATEVER THE INPUT: true; the input reads as it did. -/
def spaceAlignedSpec : ChangeSpec := { name := "spaceAligned", fn := fun _ => fun
  | [d1, d2, d3] => { results := [.lit (.bool true)], args := [d1, d2, d3] }
  | _ => none }
def spaceAlignedRow : OpenClaim := { program := "ytngcbpcfgolifaa", sum := "8ef8942892d7a49413c255d74e3cb8af7eed5271812e90f8a5ea92b25108c5ba", func := "suzerain/suzerainlaw13.SpaceAligned", spec := "spaceAligned", inPlace := ["sync/atomic.AddUint64"], unfollowed := true, recurses := true, apart := false }
def SpaceAlignedSaid : Prop := spaceAlignedRow.holds Try.pinned (OpenSpec.ofChange spaceAlignedSpec)

/-- ITS FALSE NEIGHBOUR: 'it returns false'. Refute it at one input. -/
def spaceAlignedWrong : ChangeSpec := { name := "spaceAligned", fn := fun _ => fun
  | [d1, d2, d3] => { results := [.lit (.bool false)], args := [d1, d2, d3] }
  | _ => none }
def SpaceAlignedWrongFalsely : Prop := spaceAlignedRow.holds Try.pinned (OpenSpec.ofChange spaceAlignedWrong)

/-- 'suzerainlaw13.SpaceStores': WHATEVER THE INPUT: true; the input reads as it did. -/
def spaceStoresSpec : ChangeSpec := { name := "spaceStores", fn := fun _ => fun
  | [d1, d2] => { results := [.lit (.bool true)], args := [d1, d2] }
  | _ => none }
def spaceStoresRow : OpenClaim := { program := "ytngcbpcfgolifaa", sum := "8ef8942892d7a49413c255d74e3cb8af7eed5271812e90f8a5ea92b25108c5ba", func := "suzerain/suzerainlaw13.SpaceStores", spec := "spaceStores", inPlace := ["sync/atomic.AddUint64"], unfollowed := true, recurses := true, apart := false }
def SpaceStoresSaid : Prop := spaceStoresRow.holds Try.pinned (OpenSpec.ofChange spaceStoresSpec)

/-- ITS FALSE NEIGHBOUR: 'it returns false'. Refute it at one input. -/
def spaceStoresWrong : ChangeSpec := { name := "spaceStores", fn := fun _ => fun
  | [d1, d2] => { results := [.lit (.bool false)], args := [d1, d2] }
  | _ => none }
def SpaceStoresWrongFalsely : Prop := spaceStoresRow.holds Try.pinned (OpenSpec.ofChange spaceStoresWrong)

/-- 'suzerainlaw13.SpaceFetches': WHATEVER THE INPUT: true; the input reads as it did. -/
def spaceFetchesSpec : ChangeSpec := { name := "spaceFetches", fn := fun _ => fun
  | [d1, d2] => { results := [.lit (.bool true)], args := [d1, d2] }
  | _ => none }
def spaceFetchesRow : OpenClaim := { program := "ytngcbpcfgolifaa", sum := "8ef8942892d7a49413c255d74e3cb8af7eed5271812e90f8a5ea92b25108c5ba", func := "suzerain/suzerainlaw13.SpaceFetches", spec := "spaceFetches", inPlace := ["sync/atomic.AddUint64"], unfollowed := true, recurses := true, apart := false }
def SpaceFetchesSaid : Prop := spaceFetchesRow.holds Try.pinned (OpenSpec.ofChange spaceFetchesSpec)

/-- ITS FALSE NEIGHBOUR: 'it returns false'. Refute it at one input. -/
def spaceFetchesWrong : ChangeSpec := { name := "spaceFetches", fn := fun _ => fun
  | [d1, d2] => { results := [.lit (.bool false)], args := [d1, d2] }
  | _ => none }
def SpaceFetchesWrongFalsely : Prop := spaceFetchesRow.holds Try.pinned (OpenSpec.ofChange spaceFetchesWrong)

/-- 'suzerainlaw13.SpacePlays': WHATEVER THE INPUT: true; the input reads as it did. -/
def spacePlaysSpec : ChangeSpec := { name := "spacePlays", fn := fun _ => fun
  | [d1, d2, d3] => { results := [.lit (.bool true)], args := [d1, d2, d3] }
  | _ => none }
def spacePlaysRow : OpenClaim := { program := "ytngcbpcfgolifaa", sum := "8ef8942892d7a49413c255d74e3cb8af7eed5271812e90f8a5ea92b25108c5ba", func := "suzerain/suzerainlaw13.SpacePlays", spec := "spacePlays", inPlace := ["sync/atomic.AddUint64"], unfollowed := true, recurses := true, apart := false }
def SpacePlaysSaid : Prop := spacePlaysRow.holds Try.pinned (OpenSpec.ofChange spacePlaysSpec)

/-- ITS FALSE NEIGHBOUR: 'it returns false'. Refute it at one input. -/
def spacePlaysWrong : ChangeSpec := { name := "spacePlays", fn := fun _ => fun
  | [d1, d2, d3] => { results := [.lit (.bool false)], args := [d1, d2, d3] }
  | _ => none }
def SpacePlaysWrongFalsely : Prop := spacePlaysRow.holds Try.pinned (OpenSpec.ofChange spacePlaysWrong)

/-- 'suzerainlaw13.SpaceKeeps': WHATEVER THE INPUT: true; the input reads as it did. -/
def spaceKeepsSpec : ChangeSpec := { name := "spaceKeeps", fn := fun _ => fun
  | [d1, d2] => { results := [.lit (.bool true)], args := [d1, d2] }
  | _ => none }
def spaceKeepsRow : OpenClaim := { program := "ytngcbpcfgolifaa", sum := "8ef8942892d7a49413c255d74e3cb8af7eed5271812e90f8a5ea92b25108c5ba", func := "suzerain/suzerainlaw13.SpaceKeeps", spec := "spaceKeeps", inPlace := ["sync/atomic.AddUint64"], unfollowed := true, recurses := true, apart := false }
def SpaceKeepsSaid : Prop := spaceKeepsRow.holds Try.pinned (OpenSpec.ofChange spaceKeepsSpec)

/-- ITS FALSE NEIGHBOUR: 'it returns false'. Refute it at one input. -/
def spaceKeepsWrong : ChangeSpec := { name := "spaceKeeps", fn := fun _ => fun
  | [d1, d2] => { results := [.lit (.bool false)], args := [d1, d2] }
  | _ => none }
def SpaceKeepsWrongFalsely : Prop := spaceKeepsRow.holds Try.pinned (OpenSpec.ofChange spaceKeepsWrong)

/- THE SECOND FORM. 'bulk': how many values and letters a reading holds, each counted each time it is reached (what is shared counts as often as it is met; a slice's spare places count too). A statement '..UptoSaid' is the law's where the arguments, and the package variables that the reading takes, are together of bulk at most 1048576: NARROWER than '..Said'. Prove '..Said' where nothing that the law and all that it calls make is longer than what came in: it says more and counts as full. Else prove '..UptoSaid'. A law counts once. -/
mutual
def uptoBulk {H : Type} : DataW H → Nat
  | .lit (.string bytes) => bytes.length + 1
  | .lit _ => 1
  | .nil => 1
  | .ptr d => uptoBulk d + 1
  | .slice elems spare => uptoBulkAll elems + uptoBulkAll spare + 1
  | .agg parts => uptoBulkAll parts + 1
  | .iface _ d => uptoBulk d + 1
  | .map entries => uptoBulkEntries entries + 1
  | .held _ => 1
def uptoBulkAll {H : Type} : List (DataW H) → Nat
  | [] => 0
  | d :: r => uptoBulk d + uptoBulkAll r
def uptoBulkEntries {H : Type} : List (Lit × DataW H) → Nat
  | [] => 0
  | x :: r => uptoBulkEntry x + uptoBulkEntries r
def uptoBulkEntry {H : Type} : Lit × DataW H → Nat
  | (.string bytes, d) => bytes.length + uptoBulk d + 1
  | (_, d) => uptoBulk d + 1
 end
def uptoSmall : (H : Type) → List (DataW H) → Bool := fun _ ds => decide (uptoBulkAll ds ≤ 1048576)
def OpenSpec.upto (s : _root_.Go.ChangeSpec) : _root_.Go.OpenSpec := { _root_.Go.OpenSpec.ofChange s with cond := some uptoSmall }

/-- 'suzerainlaw12.TlbOrder', WHERE WHAT IT READS IS OF BULK AT MOST 1048576: true; the input reads as it did. -/
def tlbOrderUptoRow : OpenClaim := { program := "ytngcbpcfgolifaa", sum := "8ef8942892d7a49413c255d74e3cb8af7eed5271812e90f8a5ea92b25108c5ba", func := "suzerain/suzerainlaw12.TlbOrder", spec := "tlbOrder", unfollowed := true, recurses := true, apart := false, narrowed := true }
def TlbOrderUptoSaid : Prop := tlbOrderUptoRow.holds Try.pinned (OpenSpec.upto tlbOrderSpec)

/-- 'suzerainlaw02.RamClones', WHERE WHAT IT READS IS OF BULK AT MOST 1048576: true; the input reads as it did. -/
def ramClonesUptoRow : OpenClaim := { program := "ytngcbpcfgolifaa", sum := "8ef8942892d7a49413c255d74e3cb8af7eed5271812e90f8a5ea92b25108c5ba", func := "suzerain/suzerainlaw02.RamClones", spec := "ramClones", apart := false, narrowed := true }
def RamClonesUptoSaid : Prop := ramClonesUptoRow.holds Try.pinned (OpenSpec.upto ramClonesSpec)

/-- 'suzerainlaw02.RamKeeps', WHERE WHAT IT READS IS OF BULK AT MOST 1048576: true; the input reads as it did. -/
def ramKeepsUptoRow : OpenClaim := { program := "ytngcbpcfgolifaa", sum := "8ef8942892d7a49413c255d74e3cb8af7eed5271812e90f8a5ea92b25108c5ba", func := "suzerain/suzerainlaw02.RamKeeps", spec := "ramKeeps", apart := false, narrowed := true }
def RamKeepsUptoSaid : Prop := ramKeepsUptoRow.holds Try.pinned (OpenSpec.upto ramKeepsSpec)

/-- 'suzerainlaw02.RamBytes', WHERE WHAT IT READS IS OF BULK AT MOST 1048576: true; the input reads as it did. -/
def ramBytesUptoRow : OpenClaim := { program := "ytngcbpcfgolifaa", sum := "8ef8942892d7a49413c255d74e3cb8af7eed5271812e90f8a5ea92b25108c5ba", func := "suzerain/suzerainlaw02.RamBytes", spec := "ramBytes", apart := false, narrowed := true }
def RamBytesUptoSaid : Prop := ramBytesUptoRow.holds Try.pinned (OpenSpec.upto ramBytesSpec)

/-- 'suzerainlaw02.RamPlays', WHERE WHAT IT READS IS OF BULK AT MOST 1048576: true; the input reads as it did. -/
def ramPlaysUptoRow : OpenClaim := { program := "ytngcbpcfgolifaa", sum := "8ef8942892d7a49413c255d74e3cb8af7eed5271812e90f8a5ea92b25108c5ba", func := "suzerain/suzerainlaw02.RamPlays", spec := "ramPlays", apart := false, narrowed := true }
def RamPlaysUptoSaid : Prop := ramPlaysUptoRow.holds Try.pinned (OpenSpec.upto ramPlaysSpec)

/-- 'suzerainlaw11.WalkAll', WHERE WHAT IT READS IS OF BULK AT MOST 1048576: true; the input reads as it did. -/
def walkAllUptoRow : OpenClaim := { program := "ytngcbpcfgolifaa", sum := "8ef8942892d7a49413c255d74e3cb8af7eed5271812e90f8a5ea92b25108c5ba", func := "suzerain/suzerainlaw11.WalkAll", spec := "walkAll", unfollowed := true, recurses := true, apart := false, narrowed := true }
def WalkAllUptoSaid : Prop := walkAllUptoRow.holds Try.pinned (OpenSpec.upto walkAllSpec)

/-- 'suzerainlaw11.WalkReads', WHERE WHAT IT READS IS OF BULK AT MOST 1048576: true; the input reads as it did. -/
def walkReadsUptoRow : OpenClaim := { program := "ytngcbpcfgolifaa", sum := "8ef8942892d7a49413c255d74e3cb8af7eed5271812e90f8a5ea92b25108c5ba", func := "suzerain/suzerainlaw11.WalkReads", spec := "walkReads", unfollowed := true, recurses := true, apart := false, narrowed := true }
def WalkReadsUptoSaid : Prop := walkReadsUptoRow.holds Try.pinned (OpenSpec.upto walkReadsSpec)

/-- 'suzerainlaw11.WalkOffsets', WHERE WHAT IT READS IS OF BULK AT MOST 1048576: true; the input reads as it did. -/
def walkOffsetsUptoRow : OpenClaim := { program := "ytngcbpcfgolifaa", sum := "8ef8942892d7a49413c255d74e3cb8af7eed5271812e90f8a5ea92b25108c5ba", func := "suzerain/suzerainlaw11.WalkOffsets", spec := "walkOffsets", unfollowed := true, recurses := true, apart := false, narrowed := true }
def WalkOffsetsUptoSaid : Prop := walkOffsetsUptoRow.holds Try.pinned (OpenSpec.upto walkOffsetsSpec)

/-- 'suzerainlaw11.WalkLevels', WHERE WHAT IT READS IS OF BULK AT MOST 1048576: true; the input reads as it did. -/
def walkLevelsUptoRow : OpenClaim := { program := "ytngcbpcfgolifaa", sum := "8ef8942892d7a49413c255d74e3cb8af7eed5271812e90f8a5ea92b25108c5ba", func := "suzerain/suzerainlaw11.WalkLevels", spec := "walkLevels", unfollowed := true, recurses := true, apart := false, narrowed := true }
def WalkLevelsUptoSaid : Prop := walkLevelsUptoRow.holds Try.pinned (OpenSpec.upto walkLevelsSpec)

/-- 'suzerainlaw11.WalkMay', WHERE WHAT IT READS IS OF BULK AT MOST 1048576: true; the input reads as it did. -/
def walkMayUptoRow : OpenClaim := { program := "ytngcbpcfgolifaa", sum := "8ef8942892d7a49413c255d74e3cb8af7eed5271812e90f8a5ea92b25108c5ba", func := "suzerain/suzerainlaw11.WalkMay", spec := "walkMay", unfollowed := true, recurses := true, apart := false, narrowed := true }
def WalkMayUptoSaid : Prop := walkMayUptoRow.holds Try.pinned (OpenSpec.upto walkMaySpec)

/-- 'suzerainlaw12.TlbMisses', WHERE WHAT IT READS IS OF BULK AT MOST 1048576: true; the input reads as it did. -/
def tlbMissesUptoRow : OpenClaim := { program := "ytngcbpcfgolifaa", sum := "8ef8942892d7a49413c255d74e3cb8af7eed5271812e90f8a5ea92b25108c5ba", func := "suzerain/suzerainlaw12.TlbMisses", spec := "tlbMisses", inPlace := ["sync/atomic.AddUint64", "sync/atomic.LoadUint64"], unfollowed := true, recurses := true, apart := false, narrowed := true }
def TlbMissesUptoSaid : Prop := tlbMissesUptoRow.holds Try.pinned (OpenSpec.upto tlbMissesSpec)

/-- 'suzerainlaw12.TlbWalks', WHERE WHAT IT READS IS OF BULK AT MOST 1048576: true; the input reads as it did. -/
def tlbWalksUptoRow : OpenClaim := { program := "ytngcbpcfgolifaa", sum := "8ef8942892d7a49413c255d74e3cb8af7eed5271812e90f8a5ea92b25108c5ba", func := "suzerain/suzerainlaw12.TlbWalks", spec := "tlbWalks", inPlace := ["sync/atomic.AddUint64"], unfollowed := true, recurses := true, apart := false, narrowed := true }
def TlbWalksUptoSaid : Prop := tlbWalksUptoRow.holds Try.pinned (OpenSpec.upto tlbWalksSpec)

/-- 'suzerainlaw12.TlbPlays', WHERE WHAT IT READS IS OF BULK AT MOST 1048576: true; the input reads as it did. -/
def tlbPlaysUptoRow : OpenClaim := { program := "ytngcbpcfgolifaa", sum := "8ef8942892d7a49413c255d74e3cb8af7eed5271812e90f8a5ea92b25108c5ba", func := "suzerain/suzerainlaw12.TlbPlays", spec := "tlbPlays", inPlace := ["sync/atomic.AddUint64", "sync/atomic.LoadUint64", "sync/atomic.StoreUint64"], unfollowed := true, recurses := true, apart := false, narrowed := true }
def TlbPlaysUptoSaid : Prop := tlbPlaysUptoRow.holds Try.pinned (OpenSpec.upto tlbPlaysSpec)

/-- 'suzerainlaw12.TlbFences', WHERE WHAT IT READS IS OF BULK AT MOST 1048576: true; the input reads as it did. -/
def tlbFencesUptoRow : OpenClaim := { program := "ytngcbpcfgolifaa", sum := "8ef8942892d7a49413c255d74e3cb8af7eed5271812e90f8a5ea92b25108c5ba", func := "suzerain/suzerainlaw12.TlbFences", spec := "tlbFences", inPlace := ["sync/atomic.AddUint64", "sync/atomic.LoadUint64", "sync/atomic.StoreUint64"], unfollowed := true, recurses := true, apart := false, narrowed := true }
def TlbFencesUptoSaid : Prop := tlbFencesUptoRow.holds Try.pinned (OpenSpec.upto tlbFencesSpec)

/-- 'suzerainlaw13.SpaceBytes', WHERE WHAT IT READS IS OF BULK AT MOST 1048576: true; the input reads as it did. -/
def spaceBytesUptoRow : OpenClaim := { program := "ytngcbpcfgolifaa", sum := "8ef8942892d7a49413c255d74e3cb8af7eed5271812e90f8a5ea92b25108c5ba", func := "suzerain/suzerainlaw13.SpaceBytes", spec := "spaceBytes", inPlace := ["sync/atomic.AddUint64"], unfollowed := true, recurses := true, apart := false, narrowed := true }
def SpaceBytesUptoSaid : Prop := spaceBytesUptoRow.holds Try.pinned (OpenSpec.upto spaceBytesSpec)

/-- 'suzerainlaw13.SpaceAligned', WHERE WHAT IT READS IS OF BULK AT MOST 1048576: true; the input reads as it did. -/
def spaceAlignedUptoRow : OpenClaim := { program := "ytngcbpcfgolifaa", sum := "8ef8942892d7a49413c255d74e3cb8af7eed5271812e90f8a5ea92b25108c5ba", func := "suzerain/suzerainlaw13.SpaceAligned", spec := "spaceAligned", inPlace := ["sync/atomic.AddUint64"], unfollowed := true, recurses := true, apart := false, narrowed := true }
def SpaceAlignedUptoSaid : Prop := spaceAlignedUptoRow.holds Try.pinned (OpenSpec.upto spaceAlignedSpec)

/-- 'suzerainlaw13.SpaceStores', WHERE WHAT IT READS IS OF BULK AT MOST 1048576: true; the input reads as it did. -/
def spaceStoresUptoRow : OpenClaim := { program := "ytngcbpcfgolifaa", sum := "8ef8942892d7a49413c255d74e3cb8af7eed5271812e90f8a5ea92b25108c5ba", func := "suzerain/suzerainlaw13.SpaceStores", spec := "spaceStores", inPlace := ["sync/atomic.AddUint64"], unfollowed := true, recurses := true, apart := false, narrowed := true }
def SpaceStoresUptoSaid : Prop := spaceStoresUptoRow.holds Try.pinned (OpenSpec.upto spaceStoresSpec)

/-- 'suzerainlaw13.SpaceFetches', WHERE WHAT IT READS IS OF BULK AT MOST 1048576: true; the input reads as it did. -/
def spaceFetchesUptoRow : OpenClaim := { program := "ytngcbpcfgolifaa", sum := "8ef8942892d7a49413c255d74e3cb8af7eed5271812e90f8a5ea92b25108c5ba", func := "suzerain/suzerainlaw13.SpaceFetches", spec := "spaceFetches", inPlace := ["sync/atomic.AddUint64"], unfollowed := true, recurses := true, apart := false, narrowed := true }
def SpaceFetchesUptoSaid : Prop := spaceFetchesUptoRow.holds Try.pinned (OpenSpec.upto spaceFetchesSpec)

/-- 'suzerainlaw13.SpacePlays', WHERE WHAT IT READS IS OF BULK AT MOST 1048576: true; the input reads as it did. -/
def spacePlaysUptoRow : OpenClaim := { program := "ytngcbpcfgolifaa", sum := "8ef8942892d7a49413c255d74e3cb8af7eed5271812e90f8a5ea92b25108c5ba", func := "suzerain/suzerainlaw13.SpacePlays", spec := "spacePlays", inPlace := ["sync/atomic.AddUint64"], unfollowed := true, recurses := true, apart := false, narrowed := true }
def SpacePlaysUptoSaid : Prop := spacePlaysUptoRow.holds Try.pinned (OpenSpec.upto spacePlaysSpec)

/-- 'suzerainlaw13.SpaceKeeps', WHERE WHAT IT READS IS OF BULK AT MOST 1048576: true; the input reads as it did. -/
def spaceKeepsUptoRow : OpenClaim := { program := "ytngcbpcfgolifaa", sum := "8ef8942892d7a49413c255d74e3cb8af7eed5271812e90f8a5ea92b25108c5ba", func := "suzerain/suzerainlaw13.SpaceKeeps", spec := "spaceKeeps", inPlace := ["sync/atomic.AddUint64"], unfollowed := true, recurses := true, apart := false, narrowed := true }
def SpaceKeepsUptoSaid : Prop := spaceKeepsUptoRow.holds Try.pinned (OpenSpec.upto spaceKeepsSpec)

end Rows
end Go.Proofs.Ytngcbpcfgolifaa
