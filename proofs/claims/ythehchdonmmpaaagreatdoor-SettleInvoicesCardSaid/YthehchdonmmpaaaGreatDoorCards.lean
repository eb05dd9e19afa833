/-
  DERIVED. GIVEN WITH THE SEED: THE CARDS: each row of YthehchdonmmpaaaGreatDoorRows.lean that lists a variable, with what it lists TIED to the program's text (the seventh form; the later family's looks); each row that meets fmt, with fmt's text TOLD by the authors' own Lean function (tested against real Go, not proved from fmt's source: count such statements apart). THE CARD IS WHAT COUNTS. Prove the row's statement (the work); the ties are given (YthehchdonmmpaaaGreatDoorTie.lean); close each card by the builder's one call (the guide's Derived/Test/ToyasCard.lean, 'card_holds'). Laid BY PROGRAM, IN A SANDBOX (cutbox-door.mjs). By AI agents, Wed Nov 11 2026. No macro, syntax, notation, axiom, sorry.
-/
import Derived.Test.YthehchdonmmpaaaGreatDoorRows
import GoSem.ClaimSeven
namespace Go.Proofs.YthehchdonmmpaaaGreatDoor
namespace Rows

/-- THE TIED CARD OF 'saleroomlaw33.SettleInvoices'. -/
def settleInvoicesCard : Claim7 := { stood := { row := settleInvoicesRow, standIns := [], harness := (true, "623b47df24c782113bb53e760bf339bc071a3816601cd6099c52d4d3fb96dee6"), looks := false }, kinds := [], alts := [], laidByText := true, laidKinds := [.data, .data, .data], laidTests := true, laidLooks := .later }
def SettleInvoicesCardSaid : Prop := Claim7.holds Tryz.pinned (.plain (OpenSpec.ofChange settleInvoicesSpec)) settleInvoicesCard

/-- THE SECOND FORM's CARD OF 'saleroomlaw33.SettleInvoices'. -/
def settleInvoicesUptoCard : Claim7 := { stood := { row := settleInvoicesUptoRow, standIns := [], harness := (true, "623b47df24c782113bb53e760bf339bc071a3816601cd6099c52d4d3fb96dee6"), looks := false }, kinds := [], alts := [], laidByText := true, laidKinds := [.data, .data, .data], laidTests := true, laidLooks := .later }
def SettleInvoicesUptoCardSaid : Prop := Claim7.holds Tryz.pinned (.plain (OpenSpec.upto settleInvoicesSpec)) settleInvoicesUptoCard
end Rows
end Go.Proofs.YthehchdonmmpaaaGreatDoor
