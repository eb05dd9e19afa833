/-
  DERIVED. GIVEN WITH THE SEED: THE CARDS: each row of YtjjlhihocllgjaaDoorRows.lean that lists a variable, with what it lists TIED to the program's text (the seventh form; the later family's looks); each row that meets fmt, with fmt's text TOLD by the authors' own Lean function (tested against real Go, not proved from fmt's source: count such statements apart). THE CARD IS WHAT COUNTS. Prove the row's statement (the work); the ties are given (YtjjlhihocllgjaaDoorTie.lean); close each card by the builder's one call (the guide's Derived/Test/ToyasCard.lean, 'card_holds'). Laid BY PROGRAM, IN A SANDBOX (cutbox-door.mjs). By AI agents, Wed Nov 11 2026. No macro, syntax, notation, axiom, sorry.
-/
import Derived.Test.YtjjlhihocllgjaaDoorRows
import GoSem.ClaimSeven
namespace Go.Proofs.YtjjlhihocllgjaaDoor
namespace Rows

/-- THE TIED CARD OF 'saleroomlaw12.ExprtextFormats'. -/
def exprtextFormatsCard : Claim7 := { stood := { row := exprtextFormatsRow, standIns := [], harness := (true, "cfe99f7ad627d4838da3ebcb1c681b568bcda92722c60d271dc9c83e3f36a33f"), looks := true }, kinds := [], alts := [], laidByText := true, laidKinds := [.data, .data, .data], laidTests := true, laidLooks := .later }
def ExprtextFormatsCardSaid : Prop := Claim7.holds Tryd.pinned (.plain (OpenSpec.ofChange exprtextFormatsSpec)) exprtextFormatsCard

/-- THE TIED CARD OF 'saleroomlaw12.ExprtextRoundTrip'. -/
def exprtextRoundTripCard : Claim7 := { stood := { row := exprtextRoundTripRow, standIns := [], harness := (true, "cfe99f7ad627d4838da3ebcb1c681b568bcda92722c60d271dc9c83e3f36a33f"), looks := true }, kinds := [], alts := [], laidByText := true, laidKinds := [.data, .data, .data], laidTests := true, laidLooks := .later }
def ExprtextRoundTripCardSaid : Prop := Claim7.holds Tryd.pinned (.plain (OpenSpec.ofChange exprtextRoundTripSpec)) exprtextRoundTripCard

/-- THE TIED CARD OF 'saleroomlaw12.ExprtextSpaces'. -/
def exprtextSpacesCard : Claim7 := { stood := { row := exprtextSpacesRow, standIns := [], harness := (true, "cfe99f7ad627d4838da3ebcb1c681b568bcda92722c60d271dc9c83e3f36a33f"), looks := true }, kinds := [], alts := [], laidByText := true, laidKinds := [.data, .data, .data], laidTests := true, laidLooks := .later }
def ExprtextSpacesCardSaid : Prop := Claim7.holds Tryd.pinned (.plain (OpenSpec.ofChange exprtextSpacesSpec)) exprtextSpacesCard

/-- THE TIED CARD OF 'saleroomlaw12.ExprtextFits'. -/
def exprtextFitsCard : Claim7 := { stood := { row := exprtextFitsRow, standIns := [], harness := (true, "cfe99f7ad627d4838da3ebcb1c681b568bcda92722c60d271dc9c83e3f36a33f"), looks := true }, kinds := [], alts := [], laidByText := true, laidKinds := [.data, .data, .data], laidTests := true, laidLooks := .later }
def ExprtextFitsCardSaid : Prop := Claim7.holds Tryd.pinned (.plain (OpenSpec.ofChange exprtextFitsSpec)) exprtextFitsCard

/-- THE TIED CARD OF 'saleroomlaw10.SetupShrinks'. -/
def setupShrinksCard : Claim7 := { stood := { row := setupShrinksRow, standIns := [], harness := (true, "cfe99f7ad627d4838da3ebcb1c681b568bcda92722c60d271dc9c83e3f36a33f"), looks := true }, kinds := [], alts := [], laidByText := true, laidKinds := [.data, .data, .data, .data, .sentinel, .sentinel, .pinned], laidTests := true, laidLooks := .later }
def SetupShrinksCardSaid : Prop := Claim7.holds Tryd.pinned (.plain (OpenSpec.ofChange setupShrinksSpec)) setupShrinksCard

/-- THE SECOND FORM's CARD OF 'saleroomlaw12.ExprtextFormats'. -/
def exprtextFormatsUptoCard : Claim7 := { stood := { row := exprtextFormatsUptoRow, standIns := [], harness := (true, "cfe99f7ad627d4838da3ebcb1c681b568bcda92722c60d271dc9c83e3f36a33f"), looks := true }, kinds := [], alts := [], laidByText := true, laidKinds := [.data, .data, .data], laidTests := true, laidLooks := .later }
def ExprtextFormatsUptoCardSaid : Prop := Claim7.holds Tryd.pinned (.plain (OpenSpec.upto exprtextFormatsSpec)) exprtextFormatsUptoCard

/-- THE SECOND FORM's CARD OF 'saleroomlaw12.ExprtextRoundTrip'. -/
def exprtextRoundTripUptoCard : Claim7 := { stood := { row := exprtextRoundTripUptoRow, standIns := [], harness := (true, "cfe99f7ad627d4838da3ebcb1c681b568bcda92722c60d271dc9c83e3f36a33f"), looks := true }, kinds := [], alts := [], laidByText := true, laidKinds := [.data, .data, .data], laidTests := true, laidLooks := .later }
def ExprtextRoundTripUptoCardSaid : Prop := Claim7.holds Tryd.pinned (.plain (OpenSpec.upto exprtextRoundTripSpec)) exprtextRoundTripUptoCard

/-- THE SECOND FORM's CARD OF 'saleroomlaw12.ExprtextSpaces'. -/
def exprtextSpacesUptoCard : Claim7 := { stood := { row := exprtextSpacesUptoRow, standIns := [], harness := (true, "cfe99f7ad627d4838da3ebcb1c681b568bcda92722c60d271dc9c83e3f36a33f"), looks := true }, kinds := [], alts := [], laidByText := true, laidKinds := [.data, .data, .data], laidTests := true, laidLooks := .later }
def ExprtextSpacesUptoCardSaid : Prop := Claim7.holds Tryd.pinned (.plain (OpenSpec.upto exprtextSpacesSpec)) exprtextSpacesUptoCard

/-- THE SECOND FORM's CARD OF 'saleroomlaw12.ExprtextFits'. -/
def exprtextFitsUptoCard : Claim7 := { stood := { row := exprtextFitsUptoRow, standIns := [], harness := (true, "cfe99f7ad627d4838da3ebcb1c681b568bcda92722c60d271dc9c83e3f36a33f"), looks := true }, kinds := [], alts := [], laidByText := true, laidKinds := [.data, .data, .data], laidTests := true, laidLooks := .later }
def ExprtextFitsUptoCardSaid : Prop := Claim7.holds Tryd.pinned (.plain (OpenSpec.upto exprtextFitsSpec)) exprtextFitsUptoCard

/-- THE SECOND FORM's CARD OF 'saleroomlaw10.SetupShrinks'. -/
def setupShrinksUptoCard : Claim7 := { stood := { row := setupShrinksUptoRow, standIns := [], harness := (true, "cfe99f7ad627d4838da3ebcb1c681b568bcda92722c60d271dc9c83e3f36a33f"), looks := true }, kinds := [], alts := [], laidByText := true, laidKinds := [.data, .data, .data, .data, .sentinel, .sentinel, .pinned], laidTests := true, laidLooks := .later }
def SetupShrinksUptoCardSaid : Prop := Claim7.holds Tryd.pinned (.plain (OpenSpec.upto setupShrinksSpec)) setupShrinksUptoCard
end Rows
end Go.Proofs.YtjjlhihocllgjaaDoor
