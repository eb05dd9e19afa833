/-
  DERIVED. GIVEN WITH THE SEED: THE CARDS: each row of YtjjlhihocllgjaaGreatDoorRows.lean that lists a variable, with what it lists TIED to the program's text (the seventh form; the later family's looks); each row that meets fmt, with fmt's text TOLD by the authors' own Lean function (tested against real Go, not proved from fmt's source: count such statements apart). THE CARD IS WHAT COUNTS. Prove the row's statement (the work); the ties are given (YtjjlhihocllgjaaGreatDoorTie.lean); close each card by the builder's one call (the guide's Derived/Test/ToyasCard.lean, 'card_holds'). Laid BY PROGRAM, IN A SANDBOX (cutbox-door.mjs). By AI agents, Wed Nov 11 2026. No macro, syntax, notation, axiom, sorry.
-/
import Derived.Test.YtjjlhihocllgjaaGreatDoorRows
import GoSem.ClaimSeven
namespace Go.Proofs.YtjjlhihocllgjaaGreatDoor
namespace Rows

/-- THE TIED CARD OF 'saleroomlaw12.ExprtextParses'. -/
def exprtextParsesCard : Claim7 := { stood := { row := exprtextParsesRow, standIns := [], harness := (true, "2572b9fba8165ef81eb804886cf36f5831cc87868a4e726fdaf0c7ea326c01df"), looks := true }, kinds := [], alts := [], laidByText := true, laidKinds := [.data, .data, .data], laidTests := true, laidLooks := .later }
def ExprtextParsesCardSaid : Prop := Claim7.holds Tryz.pinned (.plain (OpenSpec.ofChange exprtextParsesSpec)) exprtextParsesCard

/-- THE TIED CARD OF 'saleroomlaw10.SetupChecks'. -/
def setupChecksCard : Claim7 := { stood := { row := setupChecksRow, standIns := [], harness := (true, "2572b9fba8165ef81eb804886cf36f5831cc87868a4e726fdaf0c7ea326c01df"), looks := true }, kinds := [], alts := [], laidByText := true, laidKinds := [.data, .data, .data, .data, .sentinel, .sentinel, .pinned], laidTests := true, laidLooks := .later }
def SetupChecksCardSaid : Prop := Claim7.holds Tryz.pinned (.plain (OpenSpec.ofChange setupChecksSpec)) setupChecksCard

/-- THE TIED CARD OF 'saleroomlaw10.SetupFormats'. -/
def setupFormatsCard : Claim7 := { stood := { row := setupFormatsRow, standIns := [], harness := (true, "2572b9fba8165ef81eb804886cf36f5831cc87868a4e726fdaf0c7ea326c01df"), looks := true }, kinds := [], alts := [], laidByText := true, laidKinds := [.data, .data, .data, .data, .sentinel, .sentinel, .pinned], laidTests := true, laidLooks := .later }
def SetupFormatsCardSaid : Prop := Claim7.holds Tryz.pinned (.plain (OpenSpec.ofChange setupFormatsSpec)) setupFormatsCard

/-- THE TIED CARD OF 'saleroomlaw10.SetupParses'. -/
def setupParsesCard : Claim7 := { stood := { row := setupParsesRow, standIns := [], harness := (true, "2572b9fba8165ef81eb804886cf36f5831cc87868a4e726fdaf0c7ea326c01df"), looks := true }, kinds := [], alts := [], laidByText := true, laidKinds := [.data, .data, .data, .data, .sentinel, .sentinel, .pinned], laidTests := true, laidLooks := .later }
def SetupParsesCardSaid : Prop := Claim7.holds Tryz.pinned (.plain (OpenSpec.ofChange setupParsesSpec)) setupParsesCard

/-- THE TIED CARD OF 'saleroomlaw10.SetupRoundTrip'. -/
def setupRoundTripCard : Claim7 := { stood := { row := setupRoundTripRow, standIns := [], harness := (true, "2572b9fba8165ef81eb804886cf36f5831cc87868a4e726fdaf0c7ea326c01df"), looks := true }, kinds := [], alts := [], laidByText := true, laidKinds := [.data, .data, .data, .data, .sentinel, .sentinel, .pinned], laidTests := true, laidLooks := .later }
def SetupRoundTripCardSaid : Prop := Claim7.holds Tryz.pinned (.plain (OpenSpec.ofChange setupRoundTripSpec)) setupRoundTripCard

/-- THE TIED CARD OF 'saleroomlaw10.SetupAllows'. -/
def setupAllowsCard : Claim7 := { stood := { row := setupAllowsRow, standIns := [], harness := (true, "2572b9fba8165ef81eb804886cf36f5831cc87868a4e726fdaf0c7ea326c01df"), looks := true }, kinds := [], alts := [], laidByText := true, laidKinds := [.data, .data, .data, .data, .sentinel, .sentinel, .pinned], laidTests := true, laidLooks := .later }
def SetupAllowsCardSaid : Prop := Claim7.holds Tryz.pinned (.plain (OpenSpec.ofChange setupAllowsSpec)) setupAllowsCard

/-- THE TIED CARD OF 'saleroomlaw10.SetupFeasible'. -/
def setupFeasibleCard : Claim7 := { stood := { row := setupFeasibleRow, standIns := [], harness := (true, "2572b9fba8165ef81eb804886cf36f5831cc87868a4e726fdaf0c7ea326c01df"), looks := true }, kinds := [], alts := [], laidByText := true, laidKinds := [.data, .data, .data, .data, .sentinel, .sentinel, .pinned], laidTests := true, laidLooks := .later }
def SetupFeasibleCardSaid : Prop := Claim7.holds Tryz.pinned (.plain (OpenSpec.ofChange setupFeasibleSpec)) setupFeasibleCard

/-- THE SECOND FORM's CARD OF 'saleroomlaw12.ExprtextParses'. -/
def exprtextParsesUptoCard : Claim7 := { stood := { row := exprtextParsesUptoRow, standIns := [], harness := (true, "2572b9fba8165ef81eb804886cf36f5831cc87868a4e726fdaf0c7ea326c01df"), looks := true }, kinds := [], alts := [], laidByText := true, laidKinds := [.data, .data, .data], laidTests := true, laidLooks := .later }
def ExprtextParsesUptoCardSaid : Prop := Claim7.holds Tryz.pinned (.plain (OpenSpec.upto exprtextParsesSpec)) exprtextParsesUptoCard

/-- THE SECOND FORM's CARD OF 'saleroomlaw10.SetupChecks'. -/
def setupChecksUptoCard : Claim7 := { stood := { row := setupChecksUptoRow, standIns := [], harness := (true, "2572b9fba8165ef81eb804886cf36f5831cc87868a4e726fdaf0c7ea326c01df"), looks := true }, kinds := [], alts := [], laidByText := true, laidKinds := [.data, .data, .data, .data, .sentinel, .sentinel, .pinned], laidTests := true, laidLooks := .later }
def SetupChecksUptoCardSaid : Prop := Claim7.holds Tryz.pinned (.plain (OpenSpec.upto setupChecksSpec)) setupChecksUptoCard

/-- THE SECOND FORM's CARD OF 'saleroomlaw10.SetupFormats'. -/
def setupFormatsUptoCard : Claim7 := { stood := { row := setupFormatsUptoRow, standIns := [], harness := (true, "2572b9fba8165ef81eb804886cf36f5831cc87868a4e726fdaf0c7ea326c01df"), looks := true }, kinds := [], alts := [], laidByText := true, laidKinds := [.data, .data, .data, .data, .sentinel, .sentinel, .pinned], laidTests := true, laidLooks := .later }
def SetupFormatsUptoCardSaid : Prop := Claim7.holds Tryz.pinned (.plain (OpenSpec.upto setupFormatsSpec)) setupFormatsUptoCard

/-- THE SECOND FORM's CARD OF 'saleroomlaw10.SetupParses'. -/
def setupParsesUptoCard : Claim7 := { stood := { row := setupParsesUptoRow, standIns := [], harness := (true, "2572b9fba8165ef81eb804886cf36f5831cc87868a4e726fdaf0c7ea326c01df"), looks := true }, kinds := [], alts := [], laidByText := true, laidKinds := [.data, .data, .data, .data, .sentinel, .sentinel, .pinned], laidTests := true, laidLooks := .later }
def SetupParsesUptoCardSaid : Prop := Claim7.holds Tryz.pinned (.plain (OpenSpec.upto setupParsesSpec)) setupParsesUptoCard

/-- THE SECOND FORM's CARD OF 'saleroomlaw10.SetupRoundTrip'. -/
def setupRoundTripUptoCard : Claim7 := { stood := { row := setupRoundTripUptoRow, standIns := [], harness := (true, "2572b9fba8165ef81eb804886cf36f5831cc87868a4e726fdaf0c7ea326c01df"), looks := true }, kinds := [], alts := [], laidByText := true, laidKinds := [.data, .data, .data, .data, .sentinel, .sentinel, .pinned], laidTests := true, laidLooks := .later }
def SetupRoundTripUptoCardSaid : Prop := Claim7.holds Tryz.pinned (.plain (OpenSpec.upto setupRoundTripSpec)) setupRoundTripUptoCard

/-- THE SECOND FORM's CARD OF 'saleroomlaw10.SetupAllows'. -/
def setupAllowsUptoCard : Claim7 := { stood := { row := setupAllowsUptoRow, standIns := [], harness := (true, "2572b9fba8165ef81eb804886cf36f5831cc87868a4e726fdaf0c7ea326c01df"), looks := true }, kinds := [], alts := [], laidByText := true, laidKinds := [.data, .data, .data, .data, .sentinel, .sentinel, .pinned], laidTests := true, laidLooks := .later }
def SetupAllowsUptoCardSaid : Prop := Claim7.holds Tryz.pinned (.plain (OpenSpec.upto setupAllowsSpec)) setupAllowsUptoCard

/-- THE SECOND FORM's CARD OF 'saleroomlaw10.SetupFeasible'. -/
def setupFeasibleUptoCard : Claim7 := { stood := { row := setupFeasibleUptoRow, standIns := [], harness := (true, "2572b9fba8165ef81eb804886cf36f5831cc87868a4e726fdaf0c7ea326c01df"), looks := true }, kinds := [], alts := [], laidByText := true, laidKinds := [.data, .data, .data, .data, .sentinel, .sentinel, .pinned], laidTests := true, laidLooks := .later }
def SetupFeasibleUptoCardSaid : Prop := Claim7.holds Tryz.pinned (.plain (OpenSpec.upto setupFeasibleSpec)) setupFeasibleUptoCard
end Rows
end Go.Proofs.YtjjlhihocllgjaaGreatDoor
