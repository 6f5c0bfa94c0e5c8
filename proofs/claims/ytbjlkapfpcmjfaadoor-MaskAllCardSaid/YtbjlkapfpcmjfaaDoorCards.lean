/-
  DERIVED. GIVEN WITH THE SEED: THE CARDS: each row of YtbjlkapfpcmjfaaDoorRows.lean that lists a variable, with what it lists TIED to the program's text (the seventh form; the later family's looks); each row that meets fmt, with fmt's text TOLD by the authors' own Lean function (tested against real Go, not proved from fmt's source: count such statements apart). THE CARD IS WHAT COUNTS. Prove the row's statement (the work); the ties are given (YtbjlkapfpcmjfaaDoorTie.lean); close each card by the builder's one call (the guide's Derived/Test/ToyasCard.lean, 'card_holds'). Laid BY PROGRAM, IN A SANDBOX (cutbox-door.mjs). By AI agents, Wed Nov 11 2026. No macro, syntax, notation, axiom, sorry.
-/
import Derived.Test.YtbjlkapfpcmjfaaDoorRows
import GoSem.ClaimSeven
namespace Go.Proofs.YtbjlkapfpcmjfaaDoor
namespace Rows

/-- THE TIED CARD OF 'suzerainlaw16.MaskShifts'. -/
def maskShiftsCard : Claim7 := { stood := { row := maskShiftsRow, standIns := [], harness := (true, "5cf1515ca18a25668685078fb5d0ec4d4af7631064a11983c22f11ed67e0744f"), looks := false }, kinds := [], alts := [], laidByText := true, laidKinds := [.data], laidTests := true, laidLooks := .later }
def MaskShiftsCardSaid : Prop := Claim7.holds Tryd.pinned (.plain (OpenSpec.ofChange maskShiftsSpec)) maskShiftsCard

/-- THE TIED CARD OF 'suzerainlaw16.MaskRefuses'. -/
def maskRefusesCard : Claim7 := { stood := { row := maskRefusesRow, standIns := [], harness := (true, "5cf1515ca18a25668685078fb5d0ec4d4af7631064a11983c22f11ed67e0744f"), looks := false }, kinds := [], alts := [], laidByText := true, laidKinds := [.data], laidTests := true, laidLooks := .later }
def MaskRefusesCardSaid : Prop := Claim7.holds Tryd.pinned (.plain (OpenSpec.ofChange maskRefusesSpec)) maskRefusesCard

/-- THE TIED CARD OF 'suzerainlaw16.MaskAll'. -/
def maskAllCard : Claim7 := { stood := { row := maskAllRow, standIns := [], harness := (true, "5cf1515ca18a25668685078fb5d0ec4d4af7631064a11983c22f11ed67e0744f"), looks := false }, kinds := [], alts := [], laidByText := true, laidKinds := [.data], laidTests := true, laidLooks := .later }
def MaskAllCardSaid : Prop := Claim7.holds Tryd.pinned (.plain (OpenSpec.ofChange maskAllSpec)) maskAllCard

/-- THE TIED CARD OF 'suzerainlaw16.MaskBack'. -/
def maskBackCard : Claim7 := { stood := { row := maskBackRow, standIns := [], harness := (true, "5cf1515ca18a25668685078fb5d0ec4d4af7631064a11983c22f11ed67e0744f"), looks := false }, kinds := [], alts := [], laidByText := true, laidKinds := [.data], laidTests := true, laidLooks := .later }
def MaskBackCardSaid : Prop := Claim7.holds Tryd.pinned (.plain (OpenSpec.ofChange maskBackSpec)) maskBackCard

/-- THE SECOND FORM's CARD OF 'suzerainlaw16.MaskShifts'. -/
def maskShiftsUptoCard : Claim7 := { stood := { row := maskShiftsUptoRow, standIns := [], harness := (true, "5cf1515ca18a25668685078fb5d0ec4d4af7631064a11983c22f11ed67e0744f"), looks := false }, kinds := [], alts := [], laidByText := true, laidKinds := [.data], laidTests := true, laidLooks := .later }
def MaskShiftsUptoCardSaid : Prop := Claim7.holds Tryd.pinned (.plain (OpenSpec.upto maskShiftsSpec)) maskShiftsUptoCard

/-- THE SECOND FORM's CARD OF 'suzerainlaw16.MaskRefuses'. -/
def maskRefusesUptoCard : Claim7 := { stood := { row := maskRefusesUptoRow, standIns := [], harness := (true, "5cf1515ca18a25668685078fb5d0ec4d4af7631064a11983c22f11ed67e0744f"), looks := false }, kinds := [], alts := [], laidByText := true, laidKinds := [.data], laidTests := true, laidLooks := .later }
def MaskRefusesUptoCardSaid : Prop := Claim7.holds Tryd.pinned (.plain (OpenSpec.upto maskRefusesSpec)) maskRefusesUptoCard

/-- THE SECOND FORM's CARD OF 'suzerainlaw16.MaskAll'. -/
def maskAllUptoCard : Claim7 := { stood := { row := maskAllUptoRow, standIns := [], harness := (true, "5cf1515ca18a25668685078fb5d0ec4d4af7631064a11983c22f11ed67e0744f"), looks := false }, kinds := [], alts := [], laidByText := true, laidKinds := [.data], laidTests := true, laidLooks := .later }
def MaskAllUptoCardSaid : Prop := Claim7.holds Tryd.pinned (.plain (OpenSpec.upto maskAllSpec)) maskAllUptoCard

/-- THE SECOND FORM's CARD OF 'suzerainlaw16.MaskBack'. -/
def maskBackUptoCard : Claim7 := { stood := { row := maskBackUptoRow, standIns := [], harness := (true, "5cf1515ca18a25668685078fb5d0ec4d4af7631064a11983c22f11ed67e0744f"), looks := false }, kinds := [], alts := [], laidByText := true, laidKinds := [.data], laidTests := true, laidLooks := .later }
def MaskBackUptoCardSaid : Prop := Claim7.holds Tryd.pinned (.plain (OpenSpec.upto maskBackSpec)) maskBackUptoCard
end Rows
end Go.Proofs.YtbjlkapfpcmjfaaDoor
