/-
  DERIVED. GIVEN WITH THE SEED: THE CARDS: each row of YtfopmaeaclbknaaDoorRows.lean that lists a variable, with what it lists TIED to the program's text (the seventh form; the later family's looks); each row that meets fmt, with fmt's text TOLD by the authors' own Lean function (tested against real Go, not proved from fmt's source: count such statements apart). THE CARD IS WHAT COUNTS. Prove the row's statement (the work); the ties are given (YtfopmaeaclbknaaDoorTie.lean); close each card by the builder's one call (the guide's Derived/Test/ToyasCard.lean, 'card_holds'). Laid BY PROGRAM, IN A SANDBOX (cutbox-door.mjs). By AI agents, Wed Nov 11 2026. No macro, syntax, notation, axiom, sorry.
-/
import Derived.Test.YtfopmaeaclbknaaDoorRows
import GoSem.ClaimSeven
namespace Go.Proofs.YtfopmaeaclbknaaDoor
namespace Rows

/-- THE TIED CARD OF 'saleroomlaw05.AmountShares'. -/
def amountSharesCard : Claim7 := { stood := { row := amountSharesRow, standIns := [], harness := (true, "93bcc7546f33f15e2666d1027ab9a3859eb7fd600288af3cace9707b771dbc45"), looks := false }, kinds := [], alts := [], laidByText := true, laidKinds := [.data, .data, .data], laidTests := true, laidLooks := .later }
def AmountSharesCardSaid : Prop := Claim7.holds Tryd.pinned (.plain (OpenSpec.ofChange amountSharesSpec)) amountSharesCard

/-- THE TIED CARD OF 'saleroomlaw05.AmountDivides'. -/
def amountDividesCard : Claim7 := { stood := { row := amountDividesRow, standIns := [], harness := (true, "93bcc7546f33f15e2666d1027ab9a3859eb7fd600288af3cace9707b771dbc45"), looks := false }, kinds := [], alts := [], laidByText := true, laidKinds := [.data, .data, .data], laidTests := true, laidLooks := .later }
def AmountDividesCardSaid : Prop := Claim7.holds Tryd.pinned (.plain (OpenSpec.ofChange amountDividesSpec)) amountDividesCard

/-- THE TIED CARD OF 'saleroomlaw05.AmountTexts'. -/
def amountTextsCard : Claim7 := { stood := { row := amountTextsRow, standIns := [], harness := (true, "93bcc7546f33f15e2666d1027ab9a3859eb7fd600288af3cace9707b771dbc45"), looks := false }, kinds := [], alts := [], laidByText := true, laidKinds := [.data, .data, .data], laidTests := true, laidLooks := .later }
def AmountTextsCardSaid : Prop := Claim7.holds Tryd.pinned (.plain (OpenSpec.ofChange amountTextsSpec)) amountTextsCard

/-- THE TIED CARD OF 'saleroomlaw05.AmountChecks'. -/
def amountChecksCard : Claim7 := { stood := { row := amountChecksRow, standIns := [], harness := (true, "93bcc7546f33f15e2666d1027ab9a3859eb7fd600288af3cace9707b771dbc45"), looks := false }, kinds := [], alts := [], laidByText := true, laidKinds := [.data, .data, .data], laidTests := true, laidLooks := .later }
def AmountChecksCardSaid : Prop := Claim7.holds Tryd.pinned (.plain (OpenSpec.ofChange amountChecksSpec)) amountChecksCard

/-- THE TIED CARD OF 'saleroomlaw05.AmountUps'. -/
def amountUpsCard : Claim7 := { stood := { row := amountUpsRow, standIns := [], harness := (true, "93bcc7546f33f15e2666d1027ab9a3859eb7fd600288af3cace9707b771dbc45"), looks := false }, kinds := [], alts := [], laidByText := true, laidKinds := [.data, .data, .data], laidTests := true, laidLooks := .later }
def AmountUpsCardSaid : Prop := Claim7.holds Tryd.pinned (.plain (OpenSpec.ofChange amountUpsSpec)) amountUpsCard

/-- THE TIED CARD OF 'saleroomlaw56.ProceedsDivides'. -/
def proceedsDividesCard : Claim7 := { stood := { row := proceedsDividesRow, standIns := [], harness := (true, "93bcc7546f33f15e2666d1027ab9a3859eb7fd600288af3cace9707b771dbc45"), looks := false }, kinds := [], alts := [], laidByText := true, laidKinds := [.data, .data, .data], laidTests := true, laidLooks := .later }
def ProceedsDividesCardSaid : Prop := Claim7.holds Tryd.pinned (.plain (OpenSpec.ofChange proceedsDividesSpec)) proceedsDividesCard

/-- THE TIED CARD OF 'saleroomlaw56.ProceedsChecks'. -/
def proceedsChecksCard : Claim7 := { stood := { row := proceedsChecksRow, standIns := [], harness := (true, "93bcc7546f33f15e2666d1027ab9a3859eb7fd600288af3cace9707b771dbc45"), looks := false }, kinds := [], alts := [], laidByText := true, laidKinds := [.data, .data, .data], laidTests := true, laidLooks := .later }
def ProceedsChecksCardSaid : Prop := Claim7.holds Tryd.pinned (.plain (OpenSpec.ofChange proceedsChecksSpec)) proceedsChecksCard

/-- THE TIED CARD OF 'saleroomlaw56.ProceedsFees'. -/
def proceedsFeesCard : Claim7 := { stood := { row := proceedsFeesRow, standIns := [], harness := (true, "93bcc7546f33f15e2666d1027ab9a3859eb7fd600288af3cace9707b771dbc45"), looks := false }, kinds := [], alts := [], laidByText := true, laidKinds := [.data, .data, .data], laidTests := true, laidLooks := .later }
def ProceedsFeesCardSaid : Prop := Claim7.holds Tryd.pinned (.plain (OpenSpec.ofChange proceedsFeesSpec)) proceedsFeesCard

/-- THE TIED CARD OF 'saleroomlaw56.ProceedsTexts'. -/
def proceedsTextsCard : Claim7 := { stood := { row := proceedsTextsRow, standIns := [], harness := (true, "93bcc7546f33f15e2666d1027ab9a3859eb7fd600288af3cace9707b771dbc45"), looks := false }, kinds := [], alts := [], laidByText := true, laidKinds := [.data, .data, .data], laidTests := true, laidLooks := .later }
def ProceedsTextsCardSaid : Prop := Claim7.holds Tryd.pinned (.plain (OpenSpec.ofChange proceedsTextsSpec)) proceedsTextsCard

/-- THE TIED CARD OF 'saleroomlaw56.ProceedsAdd'. -/
def proceedsAddCard : Claim7 := { stood := { row := proceedsAddRow, standIns := [], harness := (true, "93bcc7546f33f15e2666d1027ab9a3859eb7fd600288af3cace9707b771dbc45"), looks := false }, kinds := [], alts := [], laidByText := true, laidKinds := [.data, .data, .data], laidTests := true, laidLooks := .later }
def ProceedsAddCardSaid : Prop := Claim7.holds Tryd.pinned (.plain (OpenSpec.ofChange proceedsAddSpec)) proceedsAddCard

/-- THE TIED CARD OF 'saleroomlaw56.ProceedsJoins'. -/
def proceedsJoinsCard : Claim7 := { stood := { row := proceedsJoinsRow, standIns := [], harness := (true, "93bcc7546f33f15e2666d1027ab9a3859eb7fd600288af3cace9707b771dbc45"), looks := false }, kinds := [], alts := [], laidByText := true, laidKinds := [.data, .data, .data], laidTests := true, laidLooks := .later }
def ProceedsJoinsCardSaid : Prop := Claim7.holds Tryd.pinned (.plain (OpenSpec.ofChange proceedsJoinsSpec)) proceedsJoinsCard

/-- THE SECOND FORM's CARD OF 'saleroomlaw05.AmountShares'. -/
def amountSharesUptoCard : Claim7 := { stood := { row := amountSharesUptoRow, standIns := [], harness := (true, "93bcc7546f33f15e2666d1027ab9a3859eb7fd600288af3cace9707b771dbc45"), looks := false }, kinds := [], alts := [], laidByText := true, laidKinds := [.data, .data, .data], laidTests := true, laidLooks := .later }
def AmountSharesUptoCardSaid : Prop := Claim7.holds Tryd.pinned (.plain (OpenSpec.upto amountSharesSpec)) amountSharesUptoCard

/-- THE SECOND FORM's CARD OF 'saleroomlaw05.AmountDivides'. -/
def amountDividesUptoCard : Claim7 := { stood := { row := amountDividesUptoRow, standIns := [], harness := (true, "93bcc7546f33f15e2666d1027ab9a3859eb7fd600288af3cace9707b771dbc45"), looks := false }, kinds := [], alts := [], laidByText := true, laidKinds := [.data, .data, .data], laidTests := true, laidLooks := .later }
def AmountDividesUptoCardSaid : Prop := Claim7.holds Tryd.pinned (.plain (OpenSpec.upto amountDividesSpec)) amountDividesUptoCard

/-- THE SECOND FORM's CARD OF 'saleroomlaw05.AmountTexts'. -/
def amountTextsUptoCard : Claim7 := { stood := { row := amountTextsUptoRow, standIns := [], harness := (true, "93bcc7546f33f15e2666d1027ab9a3859eb7fd600288af3cace9707b771dbc45"), looks := false }, kinds := [], alts := [], laidByText := true, laidKinds := [.data, .data, .data], laidTests := true, laidLooks := .later }
def AmountTextsUptoCardSaid : Prop := Claim7.holds Tryd.pinned (.plain (OpenSpec.upto amountTextsSpec)) amountTextsUptoCard

/-- THE SECOND FORM's CARD OF 'saleroomlaw05.AmountChecks'. -/
def amountChecksUptoCard : Claim7 := { stood := { row := amountChecksUptoRow, standIns := [], harness := (true, "93bcc7546f33f15e2666d1027ab9a3859eb7fd600288af3cace9707b771dbc45"), looks := false }, kinds := [], alts := [], laidByText := true, laidKinds := [.data, .data, .data], laidTests := true, laidLooks := .later }
def AmountChecksUptoCardSaid : Prop := Claim7.holds Tryd.pinned (.plain (OpenSpec.upto amountChecksSpec)) amountChecksUptoCard

/-- THE SECOND FORM's CARD OF 'saleroomlaw05.AmountUps'. -/
def amountUpsUptoCard : Claim7 := { stood := { row := amountUpsUptoRow, standIns := [], harness := (true, "93bcc7546f33f15e2666d1027ab9a3859eb7fd600288af3cace9707b771dbc45"), looks := false }, kinds := [], alts := [], laidByText := true, laidKinds := [.data, .data, .data], laidTests := true, laidLooks := .later }
def AmountUpsUptoCardSaid : Prop := Claim7.holds Tryd.pinned (.plain (OpenSpec.upto amountUpsSpec)) amountUpsUptoCard

/-- THE SECOND FORM's CARD OF 'saleroomlaw56.ProceedsDivides'. -/
def proceedsDividesUptoCard : Claim7 := { stood := { row := proceedsDividesUptoRow, standIns := [], harness := (true, "93bcc7546f33f15e2666d1027ab9a3859eb7fd600288af3cace9707b771dbc45"), looks := false }, kinds := [], alts := [], laidByText := true, laidKinds := [.data, .data, .data], laidTests := true, laidLooks := .later }
def ProceedsDividesUptoCardSaid : Prop := Claim7.holds Tryd.pinned (.plain (OpenSpec.upto proceedsDividesSpec)) proceedsDividesUptoCard

/-- THE SECOND FORM's CARD OF 'saleroomlaw56.ProceedsChecks'. -/
def proceedsChecksUptoCard : Claim7 := { stood := { row := proceedsChecksUptoRow, standIns := [], harness := (true, "93bcc7546f33f15e2666d1027ab9a3859eb7fd600288af3cace9707b771dbc45"), looks := false }, kinds := [], alts := [], laidByText := true, laidKinds := [.data, .data, .data], laidTests := true, laidLooks := .later }
def ProceedsChecksUptoCardSaid : Prop := Claim7.holds Tryd.pinned (.plain (OpenSpec.upto proceedsChecksSpec)) proceedsChecksUptoCard

/-- THE SECOND FORM's CARD OF 'saleroomlaw56.ProceedsFees'. -/
def proceedsFeesUptoCard : Claim7 := { stood := { row := proceedsFeesUptoRow, standIns := [], harness := (true, "93bcc7546f33f15e2666d1027ab9a3859eb7fd600288af3cace9707b771dbc45"), looks := false }, kinds := [], alts := [], laidByText := true, laidKinds := [.data, .data, .data], laidTests := true, laidLooks := .later }
def ProceedsFeesUptoCardSaid : Prop := Claim7.holds Tryd.pinned (.plain (OpenSpec.upto proceedsFeesSpec)) proceedsFeesUptoCard

/-- THE SECOND FORM's CARD OF 'saleroomlaw56.ProceedsTexts'. -/
def proceedsTextsUptoCard : Claim7 := { stood := { row := proceedsTextsUptoRow, standIns := [], harness := (true, "93bcc7546f33f15e2666d1027ab9a3859eb7fd600288af3cace9707b771dbc45"), looks := false }, kinds := [], alts := [], laidByText := true, laidKinds := [.data, .data, .data], laidTests := true, laidLooks := .later }
def ProceedsTextsUptoCardSaid : Prop := Claim7.holds Tryd.pinned (.plain (OpenSpec.upto proceedsTextsSpec)) proceedsTextsUptoCard

/-- THE SECOND FORM's CARD OF 'saleroomlaw56.ProceedsAdd'. -/
def proceedsAddUptoCard : Claim7 := { stood := { row := proceedsAddUptoRow, standIns := [], harness := (true, "93bcc7546f33f15e2666d1027ab9a3859eb7fd600288af3cace9707b771dbc45"), looks := false }, kinds := [], alts := [], laidByText := true, laidKinds := [.data, .data, .data], laidTests := true, laidLooks := .later }
def ProceedsAddUptoCardSaid : Prop := Claim7.holds Tryd.pinned (.plain (OpenSpec.upto proceedsAddSpec)) proceedsAddUptoCard

/-- THE SECOND FORM's CARD OF 'saleroomlaw56.ProceedsJoins'. -/
def proceedsJoinsUptoCard : Claim7 := { stood := { row := proceedsJoinsUptoRow, standIns := [], harness := (true, "93bcc7546f33f15e2666d1027ab9a3859eb7fd600288af3cace9707b771dbc45"), looks := false }, kinds := [], alts := [], laidByText := true, laidKinds := [.data, .data, .data], laidTests := true, laidLooks := .later }
def ProceedsJoinsUptoCardSaid : Prop := Claim7.holds Tryd.pinned (.plain (OpenSpec.upto proceedsJoinsSpec)) proceedsJoinsUptoCard
end Rows
end Go.Proofs.YtfopmaeaclbknaaDoor
