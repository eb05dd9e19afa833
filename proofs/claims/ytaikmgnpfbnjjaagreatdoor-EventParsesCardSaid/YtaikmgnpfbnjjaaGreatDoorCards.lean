/-
  DERIVED. GIVEN WITH THE SEED: THE CARDS: each row of YtaikmgnpfbnjjaaGreatDoorRows.lean that lists a variable, with what it lists TIED to the program's text (the seventh form; the later family's looks); each row that meets fmt, with fmt's text TOLD by the authors' own Lean function (tested against real Go, not proved from fmt's source: count such statements apart). THE CARD IS WHAT COUNTS. Prove the row's statement (the work); the ties are given (YtaikmgnpfbnjjaaGreatDoorTie.lean); close each card by the builder's one call (the guide's Derived/Test/ToyasCard.lean, 'card_holds'). Laid BY PROGRAM, IN A SANDBOX (cutbox-door.mjs). By AI agents, Wed Nov 11 2026. No macro, syntax, notation, axiom, sorry.
-/
import Derived.Test.YtaikmgnpfbnjjaaGreatDoorRows
import GoSem.ClaimSeven
namespace Go.Proofs.YtaikmgnpfbnjjaaGreatDoor
namespace Rows

/-- THE TIED CARD OF 'saleroomlaw42.EventChecks'. -/
def eventChecksCard : Claim7 := { stood := { row := eventChecksRow, standIns := [], harness := (true, "5ca859649f1805a780ade089c865cce3ad22a5f6ca9c84a756c93e8af46f3ab6"), looks := false }, kinds := [], alts := [], laidByText := true, laidKinds := [.data, .pinned], laidTests := true, laidLooks := .later }
def EventChecksCardSaid : Prop := Claim7.holds Tryz.pinned (.plain (OpenSpec.ofChange eventChecksSpec)) eventChecksCard

/-- THE TIED CARD OF 'saleroomlaw42.EventEncodes'. -/
def eventEncodesCard : Claim7 := { stood := { row := eventEncodesRow, standIns := [], harness := (true, "5ca859649f1805a780ade089c865cce3ad22a5f6ca9c84a756c93e8af46f3ab6"), looks := false }, kinds := [], alts := [], laidByText := true, laidKinds := [.data, .pinned], laidTests := true, laidLooks := .later }
def EventEncodesCardSaid : Prop := Claim7.holds Tryz.pinned (.plain (OpenSpec.ofChange eventEncodesSpec)) eventEncodesCard

/-- THE TIED CARD OF 'saleroomlaw42.EventDecodes'. -/
def eventDecodesCard : Claim7 := { stood := { row := eventDecodesRow, standIns := [], harness := (true, "5ca859649f1805a780ade089c865cce3ad22a5f6ca9c84a756c93e8af46f3ab6"), looks := false }, kinds := [], alts := [], laidByText := true, laidKinds := [.data, .pinned], laidTests := true, laidLooks := .later }
def EventDecodesCardSaid : Prop := Claim7.holds Tryz.pinned (.plain (OpenSpec.ofChange eventDecodesSpec)) eventDecodesCard

/-- THE TIED CARD OF 'saleroomlaw42.EventFormats'. -/
def eventFormatsCard : Claim7 := { stood := { row := eventFormatsRow, standIns := [], harness := (true, "5ca859649f1805a780ade089c865cce3ad22a5f6ca9c84a756c93e8af46f3ab6"), looks := false }, kinds := [], alts := [], laidByText := true, laidKinds := [.data, .pinned], laidTests := true, laidLooks := .later }
def EventFormatsCardSaid : Prop := Claim7.holds Tryz.pinned (.plain (OpenSpec.ofChange eventFormatsSpec)) eventFormatsCard

/-- THE TIED CARD OF 'saleroomlaw42.EventParses'. -/
def eventParsesCard : Claim7 := { stood := { row := eventParsesRow, standIns := [], harness := (true, "5ca859649f1805a780ade089c865cce3ad22a5f6ca9c84a756c93e8af46f3ab6"), looks := false }, kinds := [], alts := [], laidByText := true, laidKinds := [.data, .pinned], laidTests := true, laidLooks := .later }
def EventParsesCardSaid : Prop := Claim7.holds Tryz.pinned (.plain (OpenSpec.ofChange eventParsesSpec)) eventParsesCard

/-- THE TIED CARD OF 'saleroomlaw42.EventNames'. -/
def eventNamesCard : Claim7 := { stood := { row := eventNamesRow, standIns := [], harness := (true, "5ca859649f1805a780ade089c865cce3ad22a5f6ca9c84a756c93e8af46f3ab6"), looks := false }, kinds := [], alts := [], laidByText := true, laidKinds := [.data, .pinned], laidTests := true, laidLooks := .later }
def EventNamesCardSaid : Prop := Claim7.holds Tryz.pinned (.plain (OpenSpec.ofChange eventNamesSpec)) eventNamesCard

/-- THE SECOND FORM's CARD OF 'saleroomlaw42.EventChecks'. -/
def eventChecksUptoCard : Claim7 := { stood := { row := eventChecksUptoRow, standIns := [], harness := (true, "5ca859649f1805a780ade089c865cce3ad22a5f6ca9c84a756c93e8af46f3ab6"), looks := false }, kinds := [], alts := [], laidByText := true, laidKinds := [.data, .pinned], laidTests := true, laidLooks := .later }
def EventChecksUptoCardSaid : Prop := Claim7.holds Tryz.pinned (.plain (OpenSpec.upto eventChecksSpec)) eventChecksUptoCard

/-- THE SECOND FORM's CARD OF 'saleroomlaw42.EventEncodes'. -/
def eventEncodesUptoCard : Claim7 := { stood := { row := eventEncodesUptoRow, standIns := [], harness := (true, "5ca859649f1805a780ade089c865cce3ad22a5f6ca9c84a756c93e8af46f3ab6"), looks := false }, kinds := [], alts := [], laidByText := true, laidKinds := [.data, .pinned], laidTests := true, laidLooks := .later }
def EventEncodesUptoCardSaid : Prop := Claim7.holds Tryz.pinned (.plain (OpenSpec.upto eventEncodesSpec)) eventEncodesUptoCard

/-- THE SECOND FORM's CARD OF 'saleroomlaw42.EventDecodes'. -/
def eventDecodesUptoCard : Claim7 := { stood := { row := eventDecodesUptoRow, standIns := [], harness := (true, "5ca859649f1805a780ade089c865cce3ad22a5f6ca9c84a756c93e8af46f3ab6"), looks := false }, kinds := [], alts := [], laidByText := true, laidKinds := [.data, .pinned], laidTests := true, laidLooks := .later }
def EventDecodesUptoCardSaid : Prop := Claim7.holds Tryz.pinned (.plain (OpenSpec.upto eventDecodesSpec)) eventDecodesUptoCard

/-- THE SECOND FORM's CARD OF 'saleroomlaw42.EventFormats'. -/
def eventFormatsUptoCard : Claim7 := { stood := { row := eventFormatsUptoRow, standIns := [], harness := (true, "5ca859649f1805a780ade089c865cce3ad22a5f6ca9c84a756c93e8af46f3ab6"), looks := false }, kinds := [], alts := [], laidByText := true, laidKinds := [.data, .pinned], laidTests := true, laidLooks := .later }
def EventFormatsUptoCardSaid : Prop := Claim7.holds Tryz.pinned (.plain (OpenSpec.upto eventFormatsSpec)) eventFormatsUptoCard

/-- THE SECOND FORM's CARD OF 'saleroomlaw42.EventParses'. -/
def eventParsesUptoCard : Claim7 := { stood := { row := eventParsesUptoRow, standIns := [], harness := (true, "5ca859649f1805a780ade089c865cce3ad22a5f6ca9c84a756c93e8af46f3ab6"), looks := false }, kinds := [], alts := [], laidByText := true, laidKinds := [.data, .pinned], laidTests := true, laidLooks := .later }
def EventParsesUptoCardSaid : Prop := Claim7.holds Tryz.pinned (.plain (OpenSpec.upto eventParsesSpec)) eventParsesUptoCard

/-- THE SECOND FORM's CARD OF 'saleroomlaw42.EventNames'. -/
def eventNamesUptoCard : Claim7 := { stood := { row := eventNamesUptoRow, standIns := [], harness := (true, "5ca859649f1805a780ade089c865cce3ad22a5f6ca9c84a756c93e8af46f3ab6"), looks := false }, kinds := [], alts := [], laidByText := true, laidKinds := [.data, .pinned], laidTests := true, laidLooks := .later }
def EventNamesUptoCardSaid : Prop := Claim7.holds Tryz.pinned (.plain (OpenSpec.upto eventNamesSpec)) eventNamesUptoCard
end Rows
end Go.Proofs.YtaikmgnpfbnjjaaGreatDoor
