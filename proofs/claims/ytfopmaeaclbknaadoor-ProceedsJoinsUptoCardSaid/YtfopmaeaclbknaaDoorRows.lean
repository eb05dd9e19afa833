/-
  NARROWER THAN 'FOR EVERY INPUT', by the rows' own cells (each row's printed sentence says how): AmountShares: laid · AmountDivides: laid · AmountTexts: laid · AmountChecks: laid · AmountUps: laid · ProceedsDivides: laid · ProceedsChecks: laid · ProceedsFees: laid · ProceedsTexts: laid · ProceedsAdd: laid · ProceedsJoins: laid.
  DERIVED. THE GIVEN ROWS OF THIS SEAT. 11 by the template 'for every input the law returns true; each argument reads behind the call as it read before'; 0 by the template 'total and deterministic' (their statements: YtfopmaeaclbknaaDoorTotals.lean).
  GIVEN WITH THE SEED: the statements are not yours to turn. If you find one false, say at which input.
  Laid BY PROGRAM, IN A SANDBOX (cutbox-rows.mjs): the forced cells as the released guide's own fill.sh prints them over the translation ddd0ec1acf24e235… (all of the seat's roots in one cut). By AI agents, Wed Nov 11 2026. No macro, syntax, notation, axiom, sorry.
-/
import Derived.Test.YtfopmaeaclbknaaDoorChecked
import GoSem.Claim
import GoSem.ClaimJoined
import GoSem.ClaimMapViews
import Derived.JoinedTies
import Derived.KernelRfl
namespace Go.Proofs.YtfopmaeaclbknaaDoor
/- THE CELL 'sum', in the pinned program and in every row, IS THE sha256 OF THE DUMP (.gsa) THAT YtfopmaeaclbknaaDoorProg.lean LOADS. Nothing in Lean hashes anything: it is a label: what it is worth is what the hold of that sum in a sandbox is worth. -/
noncomputable def Tryd.pinned : Pinned := { name := "ytfopmaeaclbknaadoor", sum := "ddd0ec1acf24e2356740e2fc7295bf9659a5d65c9f8779473ddd5cb6942da4e2", checked := Tryd.checked }
namespace Rows
def none {H : Type} : Left H := { results := [], args := [] }

/- WHAT THE LISTED PACKAGE-LEVEL VARIABLES READ AS WHEN THE CALL BEGINS. Each datum BY PROGRAM (the guide's laid-datum.mjs) off the statement by which the dump's own 'gosem.cut.vars' lays the variable. In a bare row this is a premise. The card (YtfopmaeaclbknaaDoorCards.lean) ties it to the program's text. -/
def laid_math_bits_deBruijn32tab {H : Type} : DataW H := .agg [.lit (.int .u8 0), .lit (.int .u8 1), .lit (.int .u8 28), .lit (.int .u8 2), .lit (.int .u8 29), .lit (.int .u8 14), .lit (.int .u8 24), .lit (.int .u8 3), .lit (.int .u8 30), .lit (.int .u8 22), .lit (.int .u8 20), .lit (.int .u8 15), .lit (.int .u8 25), .lit (.int .u8 17), .lit (.int .u8 4), .lit (.int .u8 8), .lit (.int .u8 31), .lit (.int .u8 27), .lit (.int .u8 13), .lit (.int .u8 23), .lit (.int .u8 21), .lit (.int .u8 19), .lit (.int .u8 16), .lit (.int .u8 7), .lit (.int .u8 26), .lit (.int .u8 12), .lit (.int .u8 18), .lit (.int .u8 6), .lit (.int .u8 11), .lit (.int .u8 5), .lit (.int .u8 10), .lit (.int .u8 9)]
def laid_math_bits_deBruijn64tab {H : Type} : DataW H := .agg [.lit (.int .u8 0), .lit (.int .u8 1), .lit (.int .u8 56), .lit (.int .u8 2), .lit (.int .u8 57), .lit (.int .u8 49), .lit (.int .u8 28), .lit (.int .u8 3), .lit (.int .u8 61), .lit (.int .u8 58), .lit (.int .u8 42), .lit (.int .u8 50), .lit (.int .u8 38), .lit (.int .u8 29), .lit (.int .u8 17), .lit (.int .u8 4), .lit (.int .u8 62), .lit (.int .u8 47), .lit (.int .u8 59), .lit (.int .u8 36), .lit (.int .u8 45), .lit (.int .u8 43), .lit (.int .u8 51), .lit (.int .u8 22), .lit (.int .u8 53), .lit (.int .u8 39), .lit (.int .u8 33), .lit (.int .u8 30), .lit (.int .u8 24), .lit (.int .u8 18), .lit (.int .u8 12), .lit (.int .u8 5), .lit (.int .u8 63), .lit (.int .u8 55), .lit (.int .u8 48), .lit (.int .u8 27), .lit (.int .u8 60), .lit (.int .u8 41), .lit (.int .u8 37), .lit (.int .u8 16), .lit (.int .u8 46), .lit (.int .u8 35), .lit (.int .u8 44), .lit (.int .u8 21), .lit (.int .u8 52), .lit (.int .u8 32), .lit (.int .u8 23), .lit (.int .u8 11), .lit (.int .u8 54), .lit (.int .u8 26), .lit (.int .u8 40), .lit (.int .u8 15), .lit (.int .u8 34), .lit (.int .u8 20), .lit (.int .u8 31), .lit (.int .u8 10), .lit (.int .u8 25), .lit (.int .u8 14), .lit (.int .u8 19), .lit (.int .u8 9), .lit (.int .u8 13), .lit (.int .u8 8), .lit (.int .u8 7), .lit (.int .u8 6)]
def laid_internal_strconv_uint64pow10 {H : Type} : DataW H := .agg [.lit (.int .u64 1), .lit (.int .u64 10), .lit (.int .u64 100), .lit (.int .u64 1000), .lit (.int .u64 10000), .lit (.int .u64 100000), .lit (.int .u64 1000000), .lit (.int .u64 10000000), .lit (.int .u64 100000000), .lit (.int .u64 1000000000), .lit (.int .u64 10000000000), .lit (.int .u64 100000000000), .lit (.int .u64 1000000000000), .lit (.int .u64 10000000000000), .lit (.int .u64 100000000000000), .lit (.int .u64 1000000000000000), .lit (.int .u64 10000000000000000), .lit (.int .u64 100000000000000000), .lit (.int .u64 1000000000000000000), .lit (.int .u64 10000000000000000000)]

/-- 'saleroomlaw05.AmountShares': WHATEVER THE INPUT: true; the input reads as it did. -/
def amountSharesSpec : ChangeSpec := { name := "amountShares", fn := fun _ => fun
  | [d1, d2] => { results := [.lit (.bool true)], args := [d1, d2] }
  | _ => none }
def amountSharesRow : OpenClaim := { program := "ytfopmaeaclbknaadoor", sum := "ddd0ec1acf24e2356740e2fc7295bf9659a5d65c9f8779473ddd5cb6942da4e2", func := "saleroom/saleroomlaw05.AmountShares", spec := "amountShares", unfollowed := true, recurses := true, named := ["internal/strconv.uint64pow10", "math/bits.deBruijn32tab", "math/bits.deBruijn64tab"], apart := false, laid := [("math/bits.deBruijn32tab", laid_math_bits_deBruijn32tab), ("math/bits.deBruijn64tab", laid_math_bits_deBruijn64tab), ("internal/strconv.uint64pow10", laid_internal_strconv_uint64pow10)] }
def AmountSharesSaid : Prop := amountSharesRow.holds Tryd.pinned (OpenSpec.ofChange amountSharesSpec)

/-- ITS FALSE NEIGHBOUR: 'it returns false'. Refute it at one input. -/
def amountSharesWrong : ChangeSpec := { name := "amountShares", fn := fun _ => fun
  | [d1, d2] => { results := [.lit (.bool false)], args := [d1, d2] }
  | _ => none }
def AmountSharesWrongFalsely : Prop := amountSharesRow.holds Tryd.pinned (OpenSpec.ofChange amountSharesWrong)

/-- 'saleroomlaw05.AmountDivides': WHATEVER THE INPUT: true; the input reads as it did. -/
def amountDividesSpec : ChangeSpec := { name := "amountDivides", fn := fun _ => fun
  | [d1, d2] => { results := [.lit (.bool true)], args := [d1, d2] }
  | _ => none }
def amountDividesRow : OpenClaim := { program := "ytfopmaeaclbknaadoor", sum := "ddd0ec1acf24e2356740e2fc7295bf9659a5d65c9f8779473ddd5cb6942da4e2", func := "saleroom/saleroomlaw05.AmountDivides", spec := "amountDivides", unfollowed := true, recurses := true, named := ["internal/strconv.uint64pow10", "math/bits.deBruijn32tab", "math/bits.deBruijn64tab"], apart := false, laid := [("math/bits.deBruijn32tab", laid_math_bits_deBruijn32tab), ("math/bits.deBruijn64tab", laid_math_bits_deBruijn64tab), ("internal/strconv.uint64pow10", laid_internal_strconv_uint64pow10)] }
def AmountDividesSaid : Prop := amountDividesRow.holds Tryd.pinned (OpenSpec.ofChange amountDividesSpec)

/-- ITS FALSE NEIGHBOUR: 'it returns false'. Refute it at one input. -/
def amountDividesWrong : ChangeSpec := { name := "amountDivides", fn := fun _ => fun
  | [d1, d2] => { results := [.lit (.bool false)], args := [d1, d2] }
  | _ => none }
def AmountDividesWrongFalsely : Prop := amountDividesRow.holds Tryd.pinned (OpenSpec.ofChange amountDividesWrong)

/-- 'saleroomlaw05.AmountTexts': WHATEVER THE INPUT: true; the input reads as it did. -/
def amountTextsSpec : ChangeSpec := { name := "amountTexts", fn := fun _ => fun
  | [d1, d2] => { results := [.lit (.bool true)], args := [d1, d2] }
  | _ => none }
def amountTextsRow : OpenClaim := { program := "ytfopmaeaclbknaadoor", sum := "ddd0ec1acf24e2356740e2fc7295bf9659a5d65c9f8779473ddd5cb6942da4e2", func := "saleroom/saleroomlaw05.AmountTexts", spec := "amountTexts", unfollowed := true, recurses := true, named := ["internal/strconv.uint64pow10", "math/bits.deBruijn32tab", "math/bits.deBruijn64tab"], apart := false, laid := [("math/bits.deBruijn32tab", laid_math_bits_deBruijn32tab), ("math/bits.deBruijn64tab", laid_math_bits_deBruijn64tab), ("internal/strconv.uint64pow10", laid_internal_strconv_uint64pow10)] }
def AmountTextsSaid : Prop := amountTextsRow.holds Tryd.pinned (OpenSpec.ofChange amountTextsSpec)

/-- ITS FALSE NEIGHBOUR: 'it returns false'. Refute it at one input. -/
def amountTextsWrong : ChangeSpec := { name := "amountTexts", fn := fun _ => fun
  | [d1, d2] => { results := [.lit (.bool false)], args := [d1, d2] }
  | _ => none }
def AmountTextsWrongFalsely : Prop := amountTextsRow.holds Tryd.pinned (OpenSpec.ofChange amountTextsWrong)

/-- 'saleroomlaw05.AmountChecks': WHATEVER THE INPUT: true; the input reads as it did. -/
def amountChecksSpec : ChangeSpec := { name := "amountChecks", fn := fun _ => fun
  | [d] => { results := [.lit (.bool true)], args := [d] }
  | _ => none }
def amountChecksRow : OpenClaim := { program := "ytfopmaeaclbknaadoor", sum := "ddd0ec1acf24e2356740e2fc7295bf9659a5d65c9f8779473ddd5cb6942da4e2", func := "saleroom/saleroomlaw05.AmountChecks", spec := "amountChecks", unfollowed := true, recurses := true, named := ["internal/strconv.uint64pow10", "math/bits.deBruijn32tab", "math/bits.deBruijn64tab"], apart := false, laid := [("math/bits.deBruijn32tab", laid_math_bits_deBruijn32tab), ("math/bits.deBruijn64tab", laid_math_bits_deBruijn64tab), ("internal/strconv.uint64pow10", laid_internal_strconv_uint64pow10)] }
def AmountChecksSaid : Prop := amountChecksRow.holds Tryd.pinned (OpenSpec.ofChange amountChecksSpec)

/-- ITS FALSE NEIGHBOUR: 'it returns false'. Refute it at one input. -/
def amountChecksWrong : ChangeSpec := { name := "amountChecks", fn := fun _ => fun
  | [d] => { results := [.lit (.bool false)], args := [d] }
  | _ => none }
def AmountChecksWrongFalsely : Prop := amountChecksRow.holds Tryd.pinned (OpenSpec.ofChange amountChecksWrong)

/-- 'saleroomlaw05.AmountUps': WHATEVER THE INPUT: true; the input reads as it did. -/
def amountUpsSpec : ChangeSpec := { name := "amountUps", fn := fun _ => fun
  | [d] => { results := [.lit (.bool true)], args := [d] }
  | _ => none }
def amountUpsRow : OpenClaim := { program := "ytfopmaeaclbknaadoor", sum := "ddd0ec1acf24e2356740e2fc7295bf9659a5d65c9f8779473ddd5cb6942da4e2", func := "saleroom/saleroomlaw05.AmountUps", spec := "amountUps", unfollowed := true, recurses := true, named := ["internal/strconv.uint64pow10", "math/bits.deBruijn32tab", "math/bits.deBruijn64tab"], apart := false, laid := [("math/bits.deBruijn32tab", laid_math_bits_deBruijn32tab), ("math/bits.deBruijn64tab", laid_math_bits_deBruijn64tab), ("internal/strconv.uint64pow10", laid_internal_strconv_uint64pow10)] }
def AmountUpsSaid : Prop := amountUpsRow.holds Tryd.pinned (OpenSpec.ofChange amountUpsSpec)

/-- ITS FALSE NEIGHBOUR: 'it returns false'. Refute it at one input. -/
def amountUpsWrong : ChangeSpec := { name := "amountUps", fn := fun _ => fun
  | [d] => { results := [.lit (.bool false)], args := [d] }
  | _ => none }
def AmountUpsWrongFalsely : Prop := amountUpsRow.holds Tryd.pinned (OpenSpec.ofChange amountUpsWrong)

/-- 'saleroomlaw56.ProceedsDivides': WHATEVER THE INPUT: true; the input reads as it did. -/
def proceedsDividesSpec : ChangeSpec := { name := "proceedsDivides", fn := fun _ => fun
  | [d1, d2, d3] => { results := [.lit (.bool true)], args := [d1, d2, d3] }
  | _ => none }
def proceedsDividesRow : OpenClaim := { program := "ytfopmaeaclbknaadoor", sum := "ddd0ec1acf24e2356740e2fc7295bf9659a5d65c9f8779473ddd5cb6942da4e2", func := "saleroom/saleroomlaw56.ProceedsDivides", spec := "proceedsDivides", inPlace := ["internal/abi.NoEscape", "internal/bytealg.MakeNoZero"], unfollowed := true, recurses := true, named := ["internal/strconv.uint64pow10", "math/bits.deBruijn32tab", "math/bits.deBruijn64tab"], apart := false, laid := [("math/bits.deBruijn32tab", laid_math_bits_deBruijn32tab), ("math/bits.deBruijn64tab", laid_math_bits_deBruijn64tab), ("internal/strconv.uint64pow10", laid_internal_strconv_uint64pow10)] }
def ProceedsDividesSaid : Prop := proceedsDividesRow.holds Tryd.pinned (OpenSpec.ofChange proceedsDividesSpec)

/-- ITS FALSE NEIGHBOUR: 'it returns false'. Refute it at one input. -/
def proceedsDividesWrong : ChangeSpec := { name := "proceedsDivides", fn := fun _ => fun
  | [d1, d2, d3] => { results := [.lit (.bool false)], args := [d1, d2, d3] }
  | _ => none }
def ProceedsDividesWrongFalsely : Prop := proceedsDividesRow.holds Tryd.pinned (OpenSpec.ofChange proceedsDividesWrong)

/-- 'saleroomlaw56.ProceedsChecks': WHATEVER THE INPUT: true; the input reads as it did. -/
def proceedsChecksSpec : ChangeSpec := { name := "proceedsChecks", fn := fun _ => fun
  | [d1, d2] => { results := [.lit (.bool true)], args := [d1, d2] }
  | _ => none }
def proceedsChecksRow : OpenClaim := { program := "ytfopmaeaclbknaadoor", sum := "ddd0ec1acf24e2356740e2fc7295bf9659a5d65c9f8779473ddd5cb6942da4e2", func := "saleroom/saleroomlaw56.ProceedsChecks", spec := "proceedsChecks", inPlace := ["internal/abi.NoEscape", "internal/bytealg.MakeNoZero"], unfollowed := true, recurses := true, named := ["internal/strconv.uint64pow10", "math/bits.deBruijn32tab", "math/bits.deBruijn64tab"], apart := false, laid := [("math/bits.deBruijn32tab", laid_math_bits_deBruijn32tab), ("math/bits.deBruijn64tab", laid_math_bits_deBruijn64tab), ("internal/strconv.uint64pow10", laid_internal_strconv_uint64pow10)] }
def ProceedsChecksSaid : Prop := proceedsChecksRow.holds Tryd.pinned (OpenSpec.ofChange proceedsChecksSpec)

/-- ITS FALSE NEIGHBOUR: 'it returns false'. Refute it at one input. -/
def proceedsChecksWrong : ChangeSpec := { name := "proceedsChecks", fn := fun _ => fun
  | [d1, d2] => { results := [.lit (.bool false)], args := [d1, d2] }
  | _ => none }
def ProceedsChecksWrongFalsely : Prop := proceedsChecksRow.holds Tryd.pinned (OpenSpec.ofChange proceedsChecksWrong)

/-- 'saleroomlaw56.ProceedsFees': WHATEVER THE INPUT: true; the input reads as it did. -/
def proceedsFeesSpec : ChangeSpec := { name := "proceedsFees", fn := fun _ => fun
  | [d1, d2] => { results := [.lit (.bool true)], args := [d1, d2] }
  | _ => none }
def proceedsFeesRow : OpenClaim := { program := "ytfopmaeaclbknaadoor", sum := "ddd0ec1acf24e2356740e2fc7295bf9659a5d65c9f8779473ddd5cb6942da4e2", func := "saleroom/saleroomlaw56.ProceedsFees", spec := "proceedsFees", inPlace := ["internal/abi.NoEscape", "internal/bytealg.MakeNoZero"], unfollowed := true, recurses := true, named := ["internal/strconv.uint64pow10", "math/bits.deBruijn32tab", "math/bits.deBruijn64tab"], apart := false, laid := [("math/bits.deBruijn32tab", laid_math_bits_deBruijn32tab), ("math/bits.deBruijn64tab", laid_math_bits_deBruijn64tab), ("internal/strconv.uint64pow10", laid_internal_strconv_uint64pow10)] }
def ProceedsFeesSaid : Prop := proceedsFeesRow.holds Tryd.pinned (OpenSpec.ofChange proceedsFeesSpec)

/-- ITS FALSE NEIGHBOUR: 'it returns false'. Refute it at one input. -/
def proceedsFeesWrong : ChangeSpec := { name := "proceedsFees", fn := fun _ => fun
  | [d1, d2] => { results := [.lit (.bool false)], args := [d1, d2] }
  | _ => none }
def ProceedsFeesWrongFalsely : Prop := proceedsFeesRow.holds Tryd.pinned (OpenSpec.ofChange proceedsFeesWrong)

/-- 'saleroomlaw56.ProceedsTexts': WHATEVER THE INPUT: true; the input reads as it did. -/
def proceedsTextsSpec : ChangeSpec := { name := "proceedsTexts", fn := fun _ => fun
  | [d1, d2] => { results := [.lit (.bool true)], args := [d1, d2] }
  | _ => none }
def proceedsTextsRow : OpenClaim := { program := "ytfopmaeaclbknaadoor", sum := "ddd0ec1acf24e2356740e2fc7295bf9659a5d65c9f8779473ddd5cb6942da4e2", func := "saleroom/saleroomlaw56.ProceedsTexts", spec := "proceedsTexts", inPlace := ["internal/abi.NoEscape", "internal/bytealg.MakeNoZero"], unfollowed := true, recurses := true, named := ["internal/strconv.uint64pow10", "math/bits.deBruijn32tab", "math/bits.deBruijn64tab"], apart := false, laid := [("math/bits.deBruijn32tab", laid_math_bits_deBruijn32tab), ("math/bits.deBruijn64tab", laid_math_bits_deBruijn64tab), ("internal/strconv.uint64pow10", laid_internal_strconv_uint64pow10)] }
def ProceedsTextsSaid : Prop := proceedsTextsRow.holds Tryd.pinned (OpenSpec.ofChange proceedsTextsSpec)

/-- ITS FALSE NEIGHBOUR: 'it returns false'. Refute it at one input. -/
def proceedsTextsWrong : ChangeSpec := { name := "proceedsTexts", fn := fun _ => fun
  | [d1, d2] => { results := [.lit (.bool false)], args := [d1, d2] }
  | _ => none }
def ProceedsTextsWrongFalsely : Prop := proceedsTextsRow.holds Tryd.pinned (OpenSpec.ofChange proceedsTextsWrong)

/-- 'saleroomlaw56.ProceedsAdd': WHATEVER THE INPUT: true; the input reads as it did. -/
def proceedsAddSpec : ChangeSpec := { name := "proceedsAdd", fn := fun _ => fun
  | [d1, d2, d3] => { results := [.lit (.bool true)], args := [d1, d2, d3] }
  | _ => none }
def proceedsAddRow : OpenClaim := { program := "ytfopmaeaclbknaadoor", sum := "ddd0ec1acf24e2356740e2fc7295bf9659a5d65c9f8779473ddd5cb6942da4e2", func := "saleroom/saleroomlaw56.ProceedsAdd", spec := "proceedsAdd", inPlace := ["internal/abi.NoEscape", "internal/bytealg.MakeNoZero"], unfollowed := true, recurses := true, named := ["internal/strconv.uint64pow10", "math/bits.deBruijn32tab", "math/bits.deBruijn64tab"], apart := false, laid := [("math/bits.deBruijn32tab", laid_math_bits_deBruijn32tab), ("math/bits.deBruijn64tab", laid_math_bits_deBruijn64tab), ("internal/strconv.uint64pow10", laid_internal_strconv_uint64pow10)] }
def ProceedsAddSaid : Prop := proceedsAddRow.holds Tryd.pinned (OpenSpec.ofChange proceedsAddSpec)

/-- ITS FALSE NEIGHBOUR: 'it returns false'. Refute it at one input. -/
def proceedsAddWrong : ChangeSpec := { name := "proceedsAdd", fn := fun _ => fun
  | [d1, d2, d3] => { results := [.lit (.bool false)], args := [d1, d2, d3] }
  | _ => none }
def ProceedsAddWrongFalsely : Prop := proceedsAddRow.holds Tryd.pinned (OpenSpec.ofChange proceedsAddWrong)

/-- 'saleroomlaw56.ProceedsJoins': WHATEVER THE INPUT: true; the input reads as it did. -/
def proceedsJoinsSpec : ChangeSpec := { name := "proceedsJoins", fn := fun _ => fun
  | [d1, d2, d3, d4] => { results := [.lit (.bool true)], args := [d1, d2, d3, d4] }
  | _ => none }
def proceedsJoinsRow : OpenClaim := { program := "ytfopmaeaclbknaadoor", sum := "ddd0ec1acf24e2356740e2fc7295bf9659a5d65c9f8779473ddd5cb6942da4e2", func := "saleroom/saleroomlaw56.ProceedsJoins", spec := "proceedsJoins", inPlace := ["internal/abi.NoEscape", "internal/bytealg.MakeNoZero"], unfollowed := true, recurses := true, named := ["internal/strconv.uint64pow10", "math/bits.deBruijn32tab", "math/bits.deBruijn64tab"], apart := false, laid := [("math/bits.deBruijn32tab", laid_math_bits_deBruijn32tab), ("math/bits.deBruijn64tab", laid_math_bits_deBruijn64tab), ("internal/strconv.uint64pow10", laid_internal_strconv_uint64pow10)] }
def ProceedsJoinsSaid : Prop := proceedsJoinsRow.holds Tryd.pinned (OpenSpec.ofChange proceedsJoinsSpec)

/-- ITS FALSE NEIGHBOUR: 'it returns false'. Refute it at one input. -/
def proceedsJoinsWrong : ChangeSpec := { name := "proceedsJoins", fn := fun _ => fun
  | [d1, d2, d3, d4] => { results := [.lit (.bool false)], args := [d1, d2, d3, d4] }
  | _ => none }
def ProceedsJoinsWrongFalsely : Prop := proceedsJoinsRow.holds Tryd.pinned (OpenSpec.ofChange proceedsJoinsWrong)

/- THE SECOND FORM. 'bulk': how many values and letters a reading holds, each counted each time it is reached (what is shared counts as often as it is met; a slice's spare places count too). A statement '..UptoSaid' is the law's where the arguments, and the package variables that the reading takes, are together of bulk at most 1048576: NARROWER than '..Said'. Prove '..Said' where nothing that the law and all that it calls make is longer than what came in: it says more and counts as full. Else prove '..UptoSaid'. A law counts once. -/
mutual
def uptoBulk {H : Type} : DataW H → Nat
  | .lit (.string bytes) => bytes.length + 1
  | .lit _ => 1
  | .nil => 1
  | .ptr d => uptoBulk d + 1
  | .slice elems spare => uptoBulkAll elems + uptoBulkAll spare + 1
  | .agg parts => uptoBulkAll parts + 1
  | .iface _ d => uptoBulk d + 1
  | .map entries => uptoBulkEntries entries + 1
  | .held _ => 1
def uptoBulkAll {H : Type} : List (DataW H) → Nat
  | [] => 0
  | d :: r => uptoBulk d + uptoBulkAll r
def uptoBulkEntries {H : Type} : List (Lit × DataW H) → Nat
  | [] => 0
  | x :: r => uptoBulkEntry x + uptoBulkEntries r
def uptoBulkEntry {H : Type} : Lit × DataW H → Nat
  | (.string bytes, d) => bytes.length + uptoBulk d + 1
  | (_, d) => uptoBulk d + 1
 end
def uptoSmall : (H : Type) → List (DataW H) → Bool := fun _ ds => decide (uptoBulkAll ds ≤ 1048576)
def OpenSpec.upto (s : _root_.Go.ChangeSpec) : _root_.Go.OpenSpec := { _root_.Go.OpenSpec.ofChange s with cond := some uptoSmall }

/-- 'saleroomlaw05.AmountShares', WHERE WHAT IT READS IS OF BULK AT MOST 1048576: true; the input reads as it did. -/
def amountSharesUptoRow : OpenClaim := { program := "ytfopmaeaclbknaadoor", sum := "ddd0ec1acf24e2356740e2fc7295bf9659a5d65c9f8779473ddd5cb6942da4e2", func := "saleroom/saleroomlaw05.AmountShares", spec := "amountShares", unfollowed := true, recurses := true, named := ["internal/strconv.uint64pow10", "math/bits.deBruijn32tab", "math/bits.deBruijn64tab"], apart := false, laid := [("math/bits.deBruijn32tab", laid_math_bits_deBruijn32tab), ("math/bits.deBruijn64tab", laid_math_bits_deBruijn64tab), ("internal/strconv.uint64pow10", laid_internal_strconv_uint64pow10)], narrowed := true }
def AmountSharesUptoSaid : Prop := amountSharesUptoRow.holds Tryd.pinned (OpenSpec.upto amountSharesSpec)

/-- 'saleroomlaw05.AmountDivides', WHERE WHAT IT READS IS OF BULK AT MOST 1048576: true; the input reads as it did. -/
def amountDividesUptoRow : OpenClaim := { program := "ytfopmaeaclbknaadoor", sum := "ddd0ec1acf24e2356740e2fc7295bf9659a5d65c9f8779473ddd5cb6942da4e2", func := "saleroom/saleroomlaw05.AmountDivides", spec := "amountDivides", unfollowed := true, recurses := true, named := ["internal/strconv.uint64pow10", "math/bits.deBruijn32tab", "math/bits.deBruijn64tab"], apart := false, laid := [("math/bits.deBruijn32tab", laid_math_bits_deBruijn32tab), ("math/bits.deBruijn64tab", laid_math_bits_deBruijn64tab), ("internal/strconv.uint64pow10", laid_internal_strconv_uint64pow10)], narrowed := true }
def AmountDividesUptoSaid : Prop := amountDividesUptoRow.holds Tryd.pinned (OpenSpec.upto amountDividesSpec)

/-- 'saleroomlaw05.AmountTexts', WHERE WHAT IT READS IS OF BULK AT MOST 1048576: true; the input reads as it did. -/
def amountTextsUptoRow : OpenClaim := { program := "ytfopmaeaclbknaadoor", sum := "ddd0ec1acf24e2356740e2fc7295bf9659a5d65c9f8779473ddd5cb6942da4e2", func := "saleroom/saleroomlaw05.AmountTexts", spec := "amountTexts", unfollowed := true, recurses := true, named := ["internal/strconv.uint64pow10", "math/bits.deBruijn32tab", "math/bits.deBruijn64tab"], apart := false, laid := [("math/bits.deBruijn32tab", laid_math_bits_deBruijn32tab), ("math/bits.deBruijn64tab", laid_math_bits_deBruijn64tab), ("internal/strconv.uint64pow10", laid_internal_strconv_uint64pow10)], narrowed := true }
def AmountTextsUptoSaid : Prop := amountTextsUptoRow.holds Tryd.pinned (OpenSpec.upto amountTextsSpec)

/-- 'saleroomlaw05.AmountChecks', WHERE WHAT IT READS IS OF BULK AT MOST 1048576: true; the input reads as it did. -/
def amountChecksUptoRow : OpenClaim := { program := "ytfopmaeaclbknaadoor", sum := "ddd0ec1acf24e2356740e2fc7295bf9659a5d65c9f8779473ddd5cb6942da4e2", func := "saleroom/saleroomlaw05.AmountChecks", spec := "amountChecks", unfollowed := true, recurses := true, named := ["internal/strconv.uint64pow10", "math/bits.deBruijn32tab", "math/bits.deBruijn64tab"], apart := false, laid := [("math/bits.deBruijn32tab", laid_math_bits_deBruijn32tab), ("math/bits.deBruijn64tab", laid_math_bits_deBruijn64tab), ("internal/strconv.uint64pow10", laid_internal_strconv_uint64pow10)], narrowed := true }
def AmountChecksUptoSaid : Prop := amountChecksUptoRow.holds Tryd.pinned (OpenSpec.upto amountChecksSpec)

/-- 'saleroomlaw05.AmountUps', WHERE WHAT IT READS IS OF BULK AT MOST 1048576: true; the input reads as it did. -/
def amountUpsUptoRow : OpenClaim := { program := "ytfopmaeaclbknaadoor", sum := "ddd0ec1acf24e2356740e2fc7295bf9659a5d65c9f8779473ddd5cb6942da4e2", func := "saleroom/saleroomlaw05.AmountUps", spec := "amountUps", unfollowed := true, recurses := true, named := ["internal/strconv.uint64pow10", "math/bits.deBruijn32tab", "math/bits.deBruijn64tab"], apart := false, laid := [("math/bits.deBruijn32tab", laid_math_bits_deBruijn32tab), ("math/bits.deBruijn64tab", laid_math_bits_deBruijn64tab), ("internal/strconv.uint64pow10", laid_internal_strconv_uint64pow10)], narrowed := true }
def AmountUpsUptoSaid : Prop := amountUpsUptoRow.holds Tryd.pinned (OpenSpec.upto amountUpsSpec)

/-- 'saleroomlaw56.ProceedsDivides', WHERE WHAT IT READS IS OF BULK AT MOST 1048576: true; the input reads as it did. -/
def proceedsDividesUptoRow : OpenClaim := { program := "ytfopmaeaclbknaadoor", sum := "ddd0ec1acf24e2356740e2fc7295bf9659a5d65c9f8779473ddd5cb6942da4e2", func := "saleroom/saleroomlaw56.ProceedsDivides", spec := "proceedsDivides", inPlace := ["internal/abi.NoEscape", "internal/bytealg.MakeNoZero"], unfollowed := true, recurses := true, named := ["internal/strconv.uint64pow10", "math/bits.deBruijn32tab", "math/bits.deBruijn64tab"], apart := false, laid := [("math/bits.deBruijn32tab", laid_math_bits_deBruijn32tab), ("math/bits.deBruijn64tab", laid_math_bits_deBruijn64tab), ("internal/strconv.uint64pow10", laid_internal_strconv_uint64pow10)], narrowed := true }
def ProceedsDividesUptoSaid : Prop := proceedsDividesUptoRow.holds Tryd.pinned (OpenSpec.upto proceedsDividesSpec)

/-- 'saleroomlaw56.ProceedsChecks', WHERE WHAT IT READS IS OF BULK AT MOST 1048576: true; the input reads as it did. -/
def proceedsChecksUptoRow : OpenClaim := { program := "ytfopmaeaclbknaadoor", sum := "ddd0ec1acf24e2356740e2fc7295bf9659a5d65c9f8779473ddd5cb6942da4e2", func := "saleroom/saleroomlaw56.ProceedsChecks", spec := "proceedsChecks", inPlace := ["internal/abi.NoEscape", "internal/bytealg.MakeNoZero"], unfollowed := true, recurses := true, named := ["internal/strconv.uint64pow10", "math/bits.deBruijn32tab", "math/bits.deBruijn64tab"], apart := false, laid := [("math/bits.deBruijn32tab", laid_math_bits_deBruijn32tab), ("math/bits.deBruijn64tab", laid_math_bits_deBruijn64tab), ("internal/strconv.uint64pow10", laid_internal_strconv_uint64pow10)], narrowed := true }
def ProceedsChecksUptoSaid : Prop := proceedsChecksUptoRow.holds Tryd.pinned (OpenSpec.upto proceedsChecksSpec)

/-- 'saleroomlaw56.ProceedsFees', WHERE WHAT IT READS IS OF BULK AT MOST 1048576: true; the input reads as it did. -/
def proceedsFeesUptoRow : OpenClaim := { program := "ytfopmaeaclbknaadoor", sum := "ddd0ec1acf24e2356740e2fc7295bf9659a5d65c9f8779473ddd5cb6942da4e2", func := "saleroom/saleroomlaw56.ProceedsFees", spec := "proceedsFees", inPlace := ["internal/abi.NoEscape", "internal/bytealg.MakeNoZero"], unfollowed := true, recurses := true, named := ["internal/strconv.uint64pow10", "math/bits.deBruijn32tab", "math/bits.deBruijn64tab"], apart := false, laid := [("math/bits.deBruijn32tab", laid_math_bits_deBruijn32tab), ("math/bits.deBruijn64tab", laid_math_bits_deBruijn64tab), ("internal/strconv.uint64pow10", laid_internal_strconv_uint64pow10)], narrowed := true }
def ProceedsFeesUptoSaid : Prop := proceedsFeesUptoRow.holds Tryd.pinned (OpenSpec.upto proceedsFeesSpec)

/-- 'saleroomlaw56.ProceedsTexts', WHERE WHAT IT READS IS OF BULK AT MOST 1048576: true; the input reads as it did. -/
def proceedsTextsUptoRow : OpenClaim := { program := "ytfopmaeaclbknaadoor", sum := "ddd0ec1acf24e2356740e2fc7295bf9659a5d65c9f8779473ddd5cb6942da4e2", func := "saleroom/saleroomlaw56.ProceedsTexts", spec := "proceedsTexts", inPlace := ["internal/abi.NoEscape", "internal/bytealg.MakeNoZero"], unfollowed := true, recurses := true, named := ["internal/strconv.uint64pow10", "math/bits.deBruijn32tab", "math/bits.deBruijn64tab"], apart := false, laid := [("math/bits.deBruijn32tab", laid_math_bits_deBruijn32tab), ("math/bits.deBruijn64tab", laid_math_bits_deBruijn64tab), ("internal/strconv.uint64pow10", laid_internal_strconv_uint64pow10)], narrowed := true }
def ProceedsTextsUptoSaid : Prop := proceedsTextsUptoRow.holds Tryd.pinned (OpenSpec.upto proceedsTextsSpec)

/-- 'saleroomlaw56.ProceedsAdd', WHERE WHAT IT READS IS OF BULK AT MOST 1048576: true; the input reads as it did. -/
def proceedsAddUptoRow : OpenClaim := { program := "ytfopmaeaclbknaadoor", sum := "ddd0ec1acf24e2356740e2fc7295bf9659a5d65c9f8779473ddd5cb6942da4e2", func := "saleroom/saleroomlaw56.ProceedsAdd", spec := "proceedsAdd", inPlace := ["internal/abi.NoEscape", "internal/bytealg.MakeNoZero"], unfollowed := true, recurses := true, named := ["internal/strconv.uint64pow10", "math/bits.deBruijn32tab", "math/bits.deBruijn64tab"], apart := false, laid := [("math/bits.deBruijn32tab", laid_math_bits_deBruijn32tab), ("math/bits.deBruijn64tab", laid_math_bits_deBruijn64tab), ("internal/strconv.uint64pow10", laid_internal_strconv_uint64pow10)], narrowed := true }
def ProceedsAddUptoSaid : Prop := proceedsAddUptoRow.holds Tryd.pinned (OpenSpec.upto proceedsAddSpec)

/-- 'saleroomlaw56.ProceedsJoins', WHERE WHAT IT READS IS OF BULK AT MOST 1048576: true; the input reads as it did. -/
def proceedsJoinsUptoRow : OpenClaim := { program := "ytfopmaeaclbknaadoor", sum := "ddd0ec1acf24e2356740e2fc7295bf9659a5d65c9f8779473ddd5cb6942da4e2", func := "saleroom/saleroomlaw56.ProceedsJoins", spec := "proceedsJoins", inPlace := ["internal/abi.NoEscape", "internal/bytealg.MakeNoZero"], unfollowed := true, recurses := true, named := ["internal/strconv.uint64pow10", "math/bits.deBruijn32tab", "math/bits.deBruijn64tab"], apart := false, laid := [("math/bits.deBruijn32tab", laid_math_bits_deBruijn32tab), ("math/bits.deBruijn64tab", laid_math_bits_deBruijn64tab), ("internal/strconv.uint64pow10", laid_internal_strconv_uint64pow10)], narrowed := true }
def ProceedsJoinsUptoSaid : Prop := proceedsJoinsUptoRow.holds Tryd.pinned (OpenSpec.upto proceedsJoinsSpec)

end Rows
end Go.Proofs.YtfopmaeaclbknaaDoor
