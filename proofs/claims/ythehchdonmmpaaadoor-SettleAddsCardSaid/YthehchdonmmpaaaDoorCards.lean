/-
  DERIVED. GIVEN WITH THE SEED: THE CARDS: each row of YthehchdonmmpaaaDoorRows.lean that lists a variable, with what it lists TIED to the program's text (the seventh form; the later family's looks); each row that meets fmt, with fmt's text TOLD by the authors' own Lean function (tested against real Go, not proved from fmt's source: count such statements apart). THE CARD IS WHAT COUNTS. Prove the row's statement (the work); the ties are given (YthehchdonmmpaaaDoorTie.lean); close each card by the builder's one call (the guide's Derived/Test/ToyasCard.lean, 'card_holds'). Laid BY PROGRAM, IN A SANDBOX (cutbox-door.mjs). By AI agents, Wed Nov 11 2026. No macro, syntax, notation, axiom, sorry.
-/
import Derived.Test.YthehchdonmmpaaaDoorRows
import GoSem.ClaimSeven
namespace Go.Proofs.YthehchdonmmpaaaDoor
namespace Rows

/-- THE TIED CARD OF 'saleroomlaw33.SettleAdds'. -/
def settleAddsCard : Claim7 := { stood := { row := settleAddsRow, standIns := [], harness := (true, "c9d15aa85e23f87b88c372687c2165ae0d4dc4208fffe34a4bef205943426752"), looks := false }, kinds := [], alts := [], laidByText := true, laidKinds := [.data, .data, .data], laidTests := true, laidLooks := .later }
def SettleAddsCardSaid : Prop := Claim7.holds Tryd.pinned (.plain (OpenSpec.ofChange settleAddsSpec)) settleAddsCard

/-- THE TIED CARD OF 'saleroomlaw33.SettleRevenue'. -/
def settleRevenueCard : Claim7 := { stood := { row := settleRevenueRow, standIns := [], harness := (true, "c9d15aa85e23f87b88c372687c2165ae0d4dc4208fffe34a4bef205943426752"), looks := false }, kinds := [], alts := [], laidByText := true, laidKinds := [.data, .data, .data], laidTests := true, laidLooks := .later }
def SettleRevenueCardSaid : Prop := Claim7.holds Tryd.pinned (.plain (OpenSpec.ofChange settleRevenueSpec)) settleRevenueCard

/-- THE TIED CARD OF 'saleroomlaw33.SettleInstalments'. -/
def settleInstalmentsCard : Claim7 := { stood := { row := settleInstalmentsRow, standIns := [], harness := (true, "c9d15aa85e23f87b88c372687c2165ae0d4dc4208fffe34a4bef205943426752"), looks := false }, kinds := [], alts := [], laidByText := true, laidKinds := [.data, .data, .data], laidTests := true, laidLooks := .later }
def SettleInstalmentsCardSaid : Prop := Claim7.holds Tryd.pinned (.plain (OpenSpec.ofChange settleInstalmentsSpec)) settleInstalmentsCard

/-- THE TIED CARD OF 'saleroomlaw33.SettleFormats'. -/
def settleFormatsCard : Claim7 := { stood := { row := settleFormatsRow, standIns := [], harness := (true, "c9d15aa85e23f87b88c372687c2165ae0d4dc4208fffe34a4bef205943426752"), looks := false }, kinds := [], alts := [], laidByText := true, laidKinds := [.data, .data, .data], laidTests := true, laidLooks := .later }
def SettleFormatsCardSaid : Prop := Claim7.holds Tryd.pinned (.plain (OpenSpec.ofChange settleFormatsSpec)) settleFormatsCard

/-- THE SECOND FORM's CARD OF 'saleroomlaw33.SettleAdds'. -/
def settleAddsUptoCard : Claim7 := { stood := { row := settleAddsUptoRow, standIns := [], harness := (true, "c9d15aa85e23f87b88c372687c2165ae0d4dc4208fffe34a4bef205943426752"), looks := false }, kinds := [], alts := [], laidByText := true, laidKinds := [.data, .data, .data], laidTests := true, laidLooks := .later }
def SettleAddsUptoCardSaid : Prop := Claim7.holds Tryd.pinned (.plain (OpenSpec.upto settleAddsSpec)) settleAddsUptoCard

/-- THE SECOND FORM's CARD OF 'saleroomlaw33.SettleRevenue'. -/
def settleRevenueUptoCard : Claim7 := { stood := { row := settleRevenueUptoRow, standIns := [], harness := (true, "c9d15aa85e23f87b88c372687c2165ae0d4dc4208fffe34a4bef205943426752"), looks := false }, kinds := [], alts := [], laidByText := true, laidKinds := [.data, .data, .data], laidTests := true, laidLooks := .later }
def SettleRevenueUptoCardSaid : Prop := Claim7.holds Tryd.pinned (.plain (OpenSpec.upto settleRevenueSpec)) settleRevenueUptoCard

/-- THE SECOND FORM's CARD OF 'saleroomlaw33.SettleInstalments'. -/
def settleInstalmentsUptoCard : Claim7 := { stood := { row := settleInstalmentsUptoRow, standIns := [], harness := (true, "c9d15aa85e23f87b88c372687c2165ae0d4dc4208fffe34a4bef205943426752"), looks := false }, kinds := [], alts := [], laidByText := true, laidKinds := [.data, .data, .data], laidTests := true, laidLooks := .later }
def SettleInstalmentsUptoCardSaid : Prop := Claim7.holds Tryd.pinned (.plain (OpenSpec.upto settleInstalmentsSpec)) settleInstalmentsUptoCard

/-- THE SECOND FORM's CARD OF 'saleroomlaw33.SettleFormats'. -/
def settleFormatsUptoCard : Claim7 := { stood := { row := settleFormatsUptoRow, standIns := [], harness := (true, "c9d15aa85e23f87b88c372687c2165ae0d4dc4208fffe34a4bef205943426752"), looks := false }, kinds := [], alts := [], laidByText := true, laidKinds := [.data, .data, .data], laidTests := true, laidLooks := .later }
def SettleFormatsUptoCardSaid : Prop := Claim7.holds Tryd.pinned (.plain (OpenSpec.upto settleFormatsSpec)) settleFormatsUptoCard
end Rows
end Go.Proofs.YthehchdonmmpaaaDoor
