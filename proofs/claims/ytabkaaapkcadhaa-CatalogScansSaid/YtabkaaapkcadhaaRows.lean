/-
  No cell of these rows narrows 'for every input' (looked for: loops, veiled, ifaces, maps, wideKeys, modest, calm, conditions, laid).
  DERIVED. THE GIVEN ROWS OF THIS SEAT. 12 by the template 'for every input the law returns true; each argument reads behind the call as it read before'; 0 by the template 'total and deterministic' (their statements: YtabkaaapkcadhaaTotals.lean).
  GIVEN WITH THE SEED: the statements are not yours to turn. If you find one false, say at which input.
  Laid BY PROGRAM, IN A SANDBOX (cutbox-rows.mjs): the forced cells as the released guide's own fill.sh prints them over the translation 42a60bf4735e2541… (all of the seat's roots in one cut). By AI agents, Wed Nov 11 2026. No macro, syntax, notation, axiom, sorry.
-/
import Derived.Test.YtabkaaapkcadhaaChecked
import GoSem.Claim
import GoSem.ClaimJoined
import GoSem.ClaimMapViews
import Derived.JoinedTies
import Derived.KernelRfl
namespace Go.Proofs.Ytabkaaapkcadhaa
/- THE CELL 'sum', in the pinned program and in every row, IS THE sha256 OF THE DUMP (.gsa) THAT YtabkaaapkcadhaaProg.lean LOADS. Nothing in Lean hashes anything: it is a label: what it is worth is what the hold of that sum in a sandbox is worth. -/
noncomputable def Try.pinned : Pinned := { name := "ytabkaaapkcadhaa", sum := "42a60bf4735e2541aa53be46112a1d82482cbcd5225f62aead80ee089b8525b9", checked := Try.checked }
namespace Rows
def none {H : Type} : Left H := { results := [], args := [] }

/-- 'saleroomlaw06.LexerTokens': WHATEVER THE INPUT: true; the input reads as it did. -/
def lexerTokensSpec : ChangeSpec := { name := "lexerTokens", fn := fun _ => fun
  | [d] => { results := [.lit (.bool true)], args := [d] }
  | _ => none }
def lexerTokensRow : OpenClaim := { program := "ytabkaaapkcadhaa", sum := "42a60bf4735e2541aa53be46112a1d82482cbcd5225f62aead80ee089b8525b9", func := "saleroom/saleroomlaw06.LexerTokens", spec := "lexerTokens", inPlace := ["internal/bytealg.IndexByteString", "internal/bytealg.IndexString", "internal/abi.NoEscape"], unfollowed := true, recurses := true, named := ["internal/bytealg.MaxLen"], apart := false }
def LexerTokensSaid : Prop := lexerTokensRow.holds Try.pinned (OpenSpec.ofChange lexerTokensSpec)

/-- ITS FALSE NEIGHBOUR: 'it returns false'. Refute it at one input. -/
def lexerTokensWrong : ChangeSpec := { name := "lexerTokens", fn := fun _ => fun
  | [d] => { results := [.lit (.bool false)], args := [d] }
  | _ => none }
def LexerTokensWrongFalsely : Prop := lexerTokensRow.holds Try.pinned (OpenSpec.ofChange lexerTokensWrong)

/-- 'saleroomlaw06.LexerNames': WHATEVER THE INPUT: true; the input reads as it did. -/
def lexerNamesSpec : ChangeSpec := { name := "lexerNames", fn := fun _ => fun
  | [d] => { results := [.lit (.bool true)], args := [d] }
  | _ => none }
def lexerNamesRow : OpenClaim := { program := "ytabkaaapkcadhaa", sum := "42a60bf4735e2541aa53be46112a1d82482cbcd5225f62aead80ee089b8525b9", func := "saleroom/saleroomlaw06.LexerNames", spec := "lexerNames", inPlace := ["internal/bytealg.IndexByteString", "internal/bytealg.IndexString", "internal/abi.NoEscape"], unfollowed := true, recurses := true, named := ["internal/bytealg.MaxLen"], apart := false }
def LexerNamesSaid : Prop := lexerNamesRow.holds Try.pinned (OpenSpec.ofChange lexerNamesSpec)

/-- ITS FALSE NEIGHBOUR: 'it returns false'. Refute it at one input. -/
def lexerNamesWrong : ChangeSpec := { name := "lexerNames", fn := fun _ => fun
  | [d] => { results := [.lit (.bool false)], args := [d] }
  | _ => none }
def LexerNamesWrongFalsely : Prop := lexerNamesRow.holds Try.pinned (OpenSpec.ofChange lexerNamesWrong)

/-- 'saleroomlaw06.LexerJoins': WHATEVER THE INPUT: true; the input reads as it did. -/
def lexerJoinsSpec : ChangeSpec := { name := "lexerJoins", fn := fun _ => fun
  | [d] => { results := [.lit (.bool true)], args := [d] }
  | _ => none }
def lexerJoinsRow : OpenClaim := { program := "ytabkaaapkcadhaa", sum := "42a60bf4735e2541aa53be46112a1d82482cbcd5225f62aead80ee089b8525b9", func := "saleroom/saleroomlaw06.LexerJoins", spec := "lexerJoins", inPlace := ["internal/bytealg.IndexByteString", "internal/bytealg.IndexString", "internal/abi.NoEscape"], unfollowed := true, recurses := true, named := ["internal/bytealg.MaxLen"], apart := false }
def LexerJoinsSaid : Prop := lexerJoinsRow.holds Try.pinned (OpenSpec.ofChange lexerJoinsSpec)

/-- ITS FALSE NEIGHBOUR: 'it returns false'. Refute it at one input. -/
def lexerJoinsWrong : ChangeSpec := { name := "lexerJoins", fn := fun _ => fun
  | [d] => { results := [.lit (.bool false)], args := [d] }
  | _ => none }
def LexerJoinsWrongFalsely : Prop := lexerJoinsRow.holds Try.pinned (OpenSpec.ofChange lexerJoinsWrong)

/-- 'saleroomlaw06.LexerCovers': WHATEVER THE INPUT: true; the input reads as it did. -/
def lexerCoversSpec : ChangeSpec := { name := "lexerCovers", fn := fun _ => fun
  | [d] => { results := [.lit (.bool true)], args := [d] }
  | _ => none }
def lexerCoversRow : OpenClaim := { program := "ytabkaaapkcadhaa", sum := "42a60bf4735e2541aa53be46112a1d82482cbcd5225f62aead80ee089b8525b9", func := "saleroom/saleroomlaw06.LexerCovers", spec := "lexerCovers", inPlace := ["internal/bytealg.IndexByteString", "internal/bytealg.IndexString", "internal/abi.NoEscape"], unfollowed := true, recurses := true, named := ["internal/bytealg.MaxLen"], apart := false }
def LexerCoversSaid : Prop := lexerCoversRow.holds Try.pinned (OpenSpec.ofChange lexerCoversSpec)

/-- ITS FALSE NEIGHBOUR: 'it returns false'. Refute it at one input. -/
def lexerCoversWrong : ChangeSpec := { name := "lexerCovers", fn := fun _ => fun
  | [d] => { results := [.lit (.bool false)], args := [d] }
  | _ => none }
def LexerCoversWrongFalsely : Prop := lexerCoversRow.holds Try.pinned (OpenSpec.ofChange lexerCoversWrong)

/-- 'saleroomlaw06.LexerScans': WHATEVER THE INPUT: true; the input reads as it did. -/
def lexerScansSpec : ChangeSpec := { name := "lexerScans", fn := fun _ => fun
  | [d1, d2] => { results := [.lit (.bool true)], args := [d1, d2] }
  | _ => none }
def lexerScansRow : OpenClaim := { program := "ytabkaaapkcadhaa", sum := "42a60bf4735e2541aa53be46112a1d82482cbcd5225f62aead80ee089b8525b9", func := "saleroom/saleroomlaw06.LexerScans", spec := "lexerScans", inPlace := ["internal/bytealg.IndexByteString", "internal/bytealg.IndexString", "internal/abi.NoEscape"], unfollowed := true, recurses := true, named := ["internal/bytealg.MaxLen"], apart := false }
def LexerScansSaid : Prop := lexerScansRow.holds Try.pinned (OpenSpec.ofChange lexerScansSpec)

/-- ITS FALSE NEIGHBOUR: 'it returns false'. Refute it at one input. -/
def lexerScansWrong : ChangeSpec := { name := "lexerScans", fn := fun _ => fun
  | [d1, d2] => { results := [.lit (.bool false)], args := [d1, d2] }
  | _ => none }
def LexerScansWrongFalsely : Prop := lexerScansRow.holds Try.pinned (OpenSpec.ofChange lexerScansWrong)

/-- 'saleroomlaw08.CatalogChecks': WHATEVER THE INPUT: true; the input reads as it did. -/
def catalogChecksSpec : ChangeSpec := { name := "catalogChecks", fn := fun _ => fun
  | [d1, d2] => { results := [.lit (.bool true)], args := [d1, d2] }
  | _ => none }
def catalogChecksRow : OpenClaim := { program := "ytabkaaapkcadhaa", sum := "42a60bf4735e2541aa53be46112a1d82482cbcd5225f62aead80ee089b8525b9", func := "saleroom/saleroomlaw08.CatalogChecks", spec := "catalogChecks", inPlace := ["internal/bytealg.IndexByteString", "internal/bytealg.IndexString", "internal/abi.NoEscape", "internal/bytealg.MakeNoZero"], unfollowed := true, recurses := true, named := ["internal/bytealg.MaxLen"], apart := false }
def CatalogChecksSaid : Prop := catalogChecksRow.holds Try.pinned (OpenSpec.ofChange catalogChecksSpec)

/-- ITS FALSE NEIGHBOUR: 'it returns false'. Refute it at one input. -/
def catalogChecksWrong : ChangeSpec := { name := "catalogChecks", fn := fun _ => fun
  | [d1, d2] => { results := [.lit (.bool false)], args := [d1, d2] }
  | _ => none }
def CatalogChecksWrongFalsely : Prop := catalogChecksRow.holds Try.pinned (OpenSpec.ofChange catalogChecksWrong)

/-- 'saleroomlaw08.CatalogSums': WHATEVER THE INPUT: true; the input reads as it did. -/
def catalogSumsSpec : ChangeSpec := { name := "catalogSums", fn := fun _ => fun
  | [d1, d2, d3] => { results := [.lit (.bool true)], args := [d1, d2, d3] }
  | _ => none }
def catalogSumsRow : OpenClaim := { program := "ytabkaaapkcadhaa", sum := "42a60bf4735e2541aa53be46112a1d82482cbcd5225f62aead80ee089b8525b9", func := "saleroom/saleroomlaw08.CatalogSums", spec := "catalogSums", inPlace := ["internal/bytealg.IndexByteString", "internal/bytealg.IndexString", "internal/abi.NoEscape", "internal/bytealg.MakeNoZero"], unfollowed := true, recurses := true, named := ["internal/bytealg.MaxLen"], apart := false }
def CatalogSumsSaid : Prop := catalogSumsRow.holds Try.pinned (OpenSpec.ofChange catalogSumsSpec)

/-- ITS FALSE NEIGHBOUR: 'it returns false'. Refute it at one input. -/
def catalogSumsWrong : ChangeSpec := { name := "catalogSums", fn := fun _ => fun
  | [d1, d2, d3] => { results := [.lit (.bool false)], args := [d1, d2, d3] }
  | _ => none }
def CatalogSumsWrongFalsely : Prop := catalogSumsRow.holds Try.pinned (OpenSpec.ofChange catalogSumsWrong)

/-- 'saleroomlaw08.CatalogAdds': WHATEVER THE INPUT: true; the input reads as it did. -/
def catalogAddsSpec : ChangeSpec := { name := "catalogAdds", fn := fun _ => fun
  | [d1, d2, d3] => { results := [.lit (.bool true)], args := [d1, d2, d3] }
  | _ => none }
def catalogAddsRow : OpenClaim := { program := "ytabkaaapkcadhaa", sum := "42a60bf4735e2541aa53be46112a1d82482cbcd5225f62aead80ee089b8525b9", func := "saleroom/saleroomlaw08.CatalogAdds", spec := "catalogAdds", inPlace := ["internal/bytealg.IndexByteString", "internal/bytealg.IndexString", "internal/abi.NoEscape", "internal/bytealg.MakeNoZero"], unfollowed := true, recurses := true, named := ["internal/bytealg.MaxLen"], apart := false }
def CatalogAddsSaid : Prop := catalogAddsRow.holds Try.pinned (OpenSpec.ofChange catalogAddsSpec)

/-- ITS FALSE NEIGHBOUR: 'it returns false'. Refute it at one input. -/
def catalogAddsWrong : ChangeSpec := { name := "catalogAdds", fn := fun _ => fun
  | [d1, d2, d3] => { results := [.lit (.bool false)], args := [d1, d2, d3] }
  | _ => none }
def CatalogAddsWrongFalsely : Prop := catalogAddsRow.holds Try.pinned (OpenSpec.ofChange catalogAddsWrong)

/-- 'saleroomlaw08.CatalogFormats': WHATEVER THE INPUT: true; the input reads as it did. -/
def catalogFormatsSpec : ChangeSpec := { name := "catalogFormats", fn := fun _ => fun
  | [d1, d2] => { results := [.lit (.bool true)], args := [d1, d2] }
  | _ => none }
def catalogFormatsRow : OpenClaim := { program := "ytabkaaapkcadhaa", sum := "42a60bf4735e2541aa53be46112a1d82482cbcd5225f62aead80ee089b8525b9", func := "saleroom/saleroomlaw08.CatalogFormats", spec := "catalogFormats", inPlace := ["internal/bytealg.IndexByteString", "internal/bytealg.IndexString", "internal/abi.NoEscape", "internal/bytealg.MakeNoZero"], unfollowed := true, recurses := true, named := ["internal/bytealg.MaxLen"], apart := false }
def CatalogFormatsSaid : Prop := catalogFormatsRow.holds Try.pinned (OpenSpec.ofChange catalogFormatsSpec)

/-- ITS FALSE NEIGHBOUR: 'it returns false'. Refute it at one input. -/
def catalogFormatsWrong : ChangeSpec := { name := "catalogFormats", fn := fun _ => fun
  | [d1, d2] => { results := [.lit (.bool false)], args := [d1, d2] }
  | _ => none }
def CatalogFormatsWrongFalsely : Prop := catalogFormatsRow.holds Try.pinned (OpenSpec.ofChange catalogFormatsWrong)

/-- 'saleroomlaw08.CatalogParses': WHATEVER THE INPUT: true; the input reads as it did. -/
def catalogParsesSpec : ChangeSpec := { name := "catalogParses", fn := fun _ => fun
  | [d1, d2] => { results := [.lit (.bool true)], args := [d1, d2] }
  | _ => none }
def catalogParsesRow : OpenClaim := { program := "ytabkaaapkcadhaa", sum := "42a60bf4735e2541aa53be46112a1d82482cbcd5225f62aead80ee089b8525b9", func := "saleroom/saleroomlaw08.CatalogParses", spec := "catalogParses", inPlace := ["internal/bytealg.IndexByteString", "internal/bytealg.IndexString", "internal/abi.NoEscape", "internal/bytealg.MakeNoZero"], unfollowed := true, recurses := true, named := ["internal/bytealg.MaxLen"], apart := false }
def CatalogParsesSaid : Prop := catalogParsesRow.holds Try.pinned (OpenSpec.ofChange catalogParsesSpec)

/-- ITS FALSE NEIGHBOUR: 'it returns false'. Refute it at one input. -/
def catalogParsesWrong : ChangeSpec := { name := "catalogParses", fn := fun _ => fun
  | [d1, d2] => { results := [.lit (.bool false)], args := [d1, d2] }
  | _ => none }
def CatalogParsesWrongFalsely : Prop := catalogParsesRow.holds Try.pinned (OpenSpec.ofChange catalogParsesWrong)

/-- 'saleroomlaw08.CatalogRoundTrip': WHATEVER THE INPUT: true; the input reads as it did. -/
def catalogRoundTripSpec : ChangeSpec := { name := "catalogRoundTrip", fn := fun _ => fun
  | [d1, d2] => { results := [.lit (.bool true)], args := [d1, d2] }
  | _ => none }
def catalogRoundTripRow : OpenClaim := { program := "ytabkaaapkcadhaa", sum := "42a60bf4735e2541aa53be46112a1d82482cbcd5225f62aead80ee089b8525b9", func := "saleroom/saleroomlaw08.CatalogRoundTrip", spec := "catalogRoundTrip", inPlace := ["internal/bytealg.IndexByteString", "internal/bytealg.IndexString", "internal/abi.NoEscape", "internal/bytealg.MakeNoZero"], unfollowed := true, recurses := true, named := ["internal/bytealg.MaxLen"], apart := false }
def CatalogRoundTripSaid : Prop := catalogRoundTripRow.holds Try.pinned (OpenSpec.ofChange catalogRoundTripSpec)

/-- ITS FALSE NEIGHBOUR: 'it returns false'. Refute it at one input. -/
def catalogRoundTripWrong : ChangeSpec := { name := "catalogRoundTrip", fn := fun _ => fun
  | [d1, d2] => { results := [.lit (.bool false)], args := [d1, d2] }
  | _ => none }
def CatalogRoundTripWrongFalsely : Prop := catalogRoundTripRow.holds Try.pinned (OpenSpec.ofChange catalogRoundTripWrong)

/-- 'saleroomlaw08.CatalogScans': WHATEVER THE INPUT: true; the input reads as it did. -/
def catalogScansSpec : ChangeSpec := { name := "catalogScans", fn := fun _ => fun
  | [d1, d2] => { results := [.lit (.bool true)], args := [d1, d2] }
  | _ => none }
def catalogScansRow : OpenClaim := { program := "ytabkaaapkcadhaa", sum := "42a60bf4735e2541aa53be46112a1d82482cbcd5225f62aead80ee089b8525b9", func := "saleroom/saleroomlaw08.CatalogScans", spec := "catalogScans", inPlace := ["internal/bytealg.IndexByteString", "internal/bytealg.IndexString", "internal/abi.NoEscape", "internal/bytealg.MakeNoZero"], unfollowed := true, recurses := true, named := ["internal/bytealg.MaxLen"], apart := false }
def CatalogScansSaid : Prop := catalogScansRow.holds Try.pinned (OpenSpec.ofChange catalogScansSpec)

/-- ITS FALSE NEIGHBOUR: 'it returns false'. Refute it at one input. -/
def catalogScansWrong : ChangeSpec := { name := "catalogScans", fn := fun _ => fun
  | [d1, d2] => { results := [.lit (.bool false)], args := [d1, d2] }
  | _ => none }
def CatalogScansWrongFalsely : Prop := catalogScansRow.holds Try.pinned (OpenSpec.ofChange catalogScansWrong)

/- THE SECOND FORM. 'bulk': how many values and letters a reading holds, each counted each time it is reached (what is shared counts as often as it is met; a slice's spare places count too). A statement '..UptoSaid' is the law's where the arguments, and the package variables that the reading takes, are together of bulk at most 1048576: NARROWER than '..Said'. Prove '..Said' where nothing that the law and all that it calls make is longer than what came in: it says more and counts as full. Else prove '..UptoSaid'. A law counts once. -/
mutual
def uptoBulk {H : Type} : DataW H → Nat
  | .lit (.string bytes) => bytes.length + 1
  | .lit _ => 1
  | .nil => 1
  | .ptr d => uptoBulk d + 1
  | .slice elems spare => uptoBulkAll elems + uptoBulkAll spare + 1
  | .agg parts => uptoBulkAll parts + 1
  | .iface _ d => uptoBulk d + 1
  | .map entries => uptoBulkEntries entries + 1
  | .held _ => 1
def uptoBulkAll {H : Type} : List (DataW H) → Nat
  | [] => 0
  | d :: r => uptoBulk d + uptoBulkAll r
def uptoBulkEntries {H : Type} : List (Lit × DataW H) → Nat
  | [] => 0
  | x :: r => uptoBulkEntry x + uptoBulkEntries r
def uptoBulkEntry {H : Type} : Lit × DataW H → Nat
  | (.string bytes, d) => bytes.length + uptoBulk d + 1
  | (_, d) => uptoBulk d + 1
 end
def uptoSmall : (H : Type) → List (DataW H) → Bool := fun _ ds => decide (uptoBulkAll ds ≤ 1048576)
def OpenSpec.upto (s : _root_.Go.ChangeSpec) : _root_.Go.OpenSpec := { _root_.Go.OpenSpec.ofChange s with cond := some uptoSmall }

/-- 'saleroomlaw06.LexerTokens', WHERE WHAT IT READS IS OF BULK AT MOST 1048576: true; the input reads as it did. -/
def lexerTokensUptoRow : OpenClaim := { program := "ytabkaaapkcadhaa", sum := "42a60bf4735e2541aa53be46112a1d82482cbcd5225f62aead80ee089b8525b9", func := "saleroom/saleroomlaw06.LexerTokens", spec := "lexerTokens", inPlace := ["internal/bytealg.IndexByteString", "internal/bytealg.IndexString", "internal/abi.NoEscape"], unfollowed := true, recurses := true, named := ["internal/bytealg.MaxLen"], apart := false, narrowed := true }
def LexerTokensUptoSaid : Prop := lexerTokensUptoRow.holds Try.pinned (OpenSpec.upto lexerTokensSpec)

/-- 'saleroomlaw06.LexerNames', WHERE WHAT IT READS IS OF BULK AT MOST 1048576: true; the input reads as it did. -/
def lexerNamesUptoRow : OpenClaim := { program := "ytabkaaapkcadhaa", sum := "42a60bf4735e2541aa53be46112a1d82482cbcd5225f62aead80ee089b8525b9", func := "saleroom/saleroomlaw06.LexerNames", spec := "lexerNames", inPlace := ["internal/bytealg.IndexByteString", "internal/bytealg.IndexString", "internal/abi.NoEscape"], unfollowed := true, recurses := true, named := ["internal/bytealg.MaxLen"], apart := false, narrowed := true }
def LexerNamesUptoSaid : Prop := lexerNamesUptoRow.holds Try.pinned (OpenSpec.upto lexerNamesSpec)

/-- 'saleroomlaw06.LexerJoins', WHERE WHAT IT READS IS OF BULK AT MOST 1048576: true; the input reads as it did. -/
def lexerJoinsUptoRow : OpenClaim := { program := "ytabkaaapkcadhaa", sum := "42a60bf4735e2541aa53be46112a1d82482cbcd5225f62aead80ee089b8525b9", func := "saleroom/saleroomlaw06.LexerJoins", spec := "lexerJoins", inPlace := ["internal/bytealg.IndexByteString", "internal/bytealg.IndexString", "internal/abi.NoEscape"], unfollowed := true, recurses := true, named := ["internal/bytealg.MaxLen"], apart := false, narrowed := true }
def LexerJoinsUptoSaid : Prop := lexerJoinsUptoRow.holds Try.pinned (OpenSpec.upto lexerJoinsSpec)

/-- 'saleroomlaw06.LexerCovers', WHERE WHAT IT READS IS OF BULK AT MOST 1048576: true; the input reads as it did. -/
def lexerCoversUptoRow : OpenClaim := { program := "ytabkaaapkcadhaa", sum := "42a60bf4735e2541aa53be46112a1d82482cbcd5225f62aead80ee089b8525b9", func := "saleroom/saleroomlaw06.LexerCovers", spec := "lexerCovers", inPlace := ["internal/bytealg.IndexByteString", "internal/bytealg.IndexString", "internal/abi.NoEscape"], unfollowed := true, recurses := true, named := ["internal/bytealg.MaxLen"], apart := false, narrowed := true }
def LexerCoversUptoSaid : Prop := lexerCoversUptoRow.holds Try.pinned (OpenSpec.upto lexerCoversSpec)

/-- 'saleroomlaw06.LexerScans', WHERE WHAT IT READS IS OF BULK AT MOST 1048576: true; the input reads as it did. -/
def lexerScansUptoRow : OpenClaim := { program := "ytabkaaapkcadhaa", sum := "42a60bf4735e2541aa53be46112a1d82482cbcd5225f62aead80ee089b8525b9", func := "saleroom/saleroomlaw06.LexerScans", spec := "lexerScans", inPlace := ["internal/bytealg.IndexByteString", "internal/bytealg.IndexString", "internal/abi.NoEscape"], unfollowed := true, recurses := true, named := ["internal/bytealg.MaxLen"], apart := false, narrowed := true }
def LexerScansUptoSaid : Prop := lexerScansUptoRow.holds Try.pinned (OpenSpec.upto lexerScansSpec)

/-- 'saleroomlaw08.CatalogChecks', WHERE WHAT IT READS IS OF BULK AT MOST 1048576: true; the input reads as it did. -/
def catalogChecksUptoRow : OpenClaim := { program := "ytabkaaapkcadhaa", sum := "42a60bf4735e2541aa53be46112a1d82482cbcd5225f62aead80ee089b8525b9", func := "saleroom/saleroomlaw08.CatalogChecks", spec := "catalogChecks", inPlace := ["internal/bytealg.IndexByteString", "internal/bytealg.IndexString", "internal/abi.NoEscape", "internal/bytealg.MakeNoZero"], unfollowed := true, recurses := true, named := ["internal/bytealg.MaxLen"], apart := false, narrowed := true }
def CatalogChecksUptoSaid : Prop := catalogChecksUptoRow.holds Try.pinned (OpenSpec.upto catalogChecksSpec)

/-- 'saleroomlaw08.CatalogSums', WHERE WHAT IT READS IS OF BULK AT MOST 1048576: true; the input reads as it did. -/
def catalogSumsUptoRow : OpenClaim := { program := "ytabkaaapkcadhaa", sum := "42a60bf4735e2541aa53be46112a1d82482cbcd5225f62aead80ee089b8525b9", func := "saleroom/saleroomlaw08.CatalogSums", spec := "catalogSums", inPlace := ["internal/bytealg.IndexByteString", "internal/bytealg.IndexString", "internal/abi.NoEscape", "internal/bytealg.MakeNoZero"], unfollowed := true, recurses := true, named := ["internal/bytealg.MaxLen"], apart := false, narrowed := true }
def CatalogSumsUptoSaid : Prop := catalogSumsUptoRow.holds Try.pinned (OpenSpec.upto catalogSumsSpec)

/-- 'saleroomlaw08.CatalogAdds', WHERE WHAT IT READS IS OF BULK AT MOST 1048576: true; the input reads as it did. -/
def catalogAddsUptoRow : OpenClaim := { program := "ytabkaaapkcadhaa", sum := "42a60bf4735e2541aa53be46112a1d82482cbcd5225f62aead80ee089b8525b9", func := "saleroom/saleroomlaw08.CatalogAdds", spec := "catalogAdds", inPlace := ["internal/bytealg.IndexByteString", "internal/bytealg.IndexString", "internal/abi.NoEscape", "internal/bytealg.MakeNoZero"], unfollowed := true, recurses := true, named := ["internal/bytealg.MaxLen"], apart := false, narrowed := true }
def CatalogAddsUptoSaid : Prop := catalogAddsUptoRow.holds Try.pinned (OpenSpec.upto catalogAddsSpec)

/-- 'saleroomlaw08.CatalogFormats', WHERE WHAT IT READS IS OF BULK AT MOST 1048576: true; the input reads as it did. -/
def catalogFormatsUptoRow : OpenClaim := { program := "ytabkaaapkcadhaa", sum := "42a60bf4735e2541aa53be46112a1d82482cbcd5225f62aead80ee089b8525b9", func := "saleroom/saleroomlaw08.CatalogFormats", spec := "catalogFormats", inPlace := ["internal/bytealg.IndexByteString", "internal/bytealg.IndexString", "internal/abi.NoEscape", "internal/bytealg.MakeNoZero"], unfollowed := true, recurses := true, named := ["internal/bytealg.MaxLen"], apart := false, narrowed := true }
def CatalogFormatsUptoSaid : Prop := catalogFormatsUptoRow.holds Try.pinned (OpenSpec.upto catalogFormatsSpec)

/-- 'saleroomlaw08.CatalogParses', WHERE WHAT IT READS IS OF BULK AT MOST 1048576: true; the input reads as it did. -/
def catalogParsesUptoRow : OpenClaim := { program := "ytabkaaapkcadhaa", sum := "42a60bf4735e2541aa53be46112a1d82482cbcd5225f62aead80ee089b8525b9", func := "saleroom/saleroomlaw08.CatalogParses", spec := "catalogParses", inPlace := ["internal/bytealg.IndexByteString", "internal/bytealg.IndexString", "internal/abi.NoEscape", "internal/bytealg.MakeNoZero"], unfollowed := true, recurses := true, named := ["internal/bytealg.MaxLen"], apart := false, narrowed := true }
def CatalogParsesUptoSaid : Prop := catalogParsesUptoRow.holds Try.pinned (OpenSpec.upto catalogParsesSpec)

/-- 'saleroomlaw08.CatalogRoundTrip', WHERE WHAT IT READS IS OF BULK AT MOST 1048576: true; the input reads as it did. -/
def catalogRoundTripUptoRow : OpenClaim := { program := "ytabkaaapkcadhaa", sum := "42a60bf4735e2541aa53be46112a1d82482cbcd5225f62aead80ee089b8525b9", func := "saleroom/saleroomlaw08.CatalogRoundTrip", spec := "catalogRoundTrip", inPlace := ["internal/bytealg.IndexByteString", "internal/bytealg.IndexString", "internal/abi.NoEscape", "internal/bytealg.MakeNoZero"], unfollowed := true, recurses := true, named := ["internal/bytealg.MaxLen"], apart := false, narrowed := true }
def CatalogRoundTripUptoSaid : Prop := catalogRoundTripUptoRow.holds Try.pinned (OpenSpec.upto catalogRoundTripSpec)

/-- 'saleroomlaw08.CatalogScans', WHERE WHAT IT READS IS OF BULK AT MOST 1048576: true; the input reads as it did. -/
def catalogScansUptoRow : OpenClaim := { program := "ytabkaaapkcadhaa", sum := "42a60bf4735e2541aa53be46112a1d82482cbcd5225f62aead80ee089b8525b9", func := "saleroom/saleroomlaw08.CatalogScans", spec := "catalogScans", inPlace := ["internal/bytealg.IndexByteString", "internal/bytealg.IndexString", "internal/abi.NoEscape", "internal/bytealg.MakeNoZero"], unfollowed := true, recurses := true, named := ["internal/bytealg.MaxLen"], apart := false, narrowed := true }
def CatalogScansUptoSaid : Prop := catalogScansUptoRow.holds Try.pinned (OpenSpec.upto catalogScansSpec)

end Rows
end Go.Proofs.Ytabkaaapkcadhaa
