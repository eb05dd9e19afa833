/-
  No cell of these rows narrows 'for every input' (looked for: loops, veiled, ifaces, maps, wideKeys, modest, calm, conditions, laid).
  DERIVED. THE GIVEN ROWS OF THIS SEAT. 12 by the template 'for every input the law returns true; each argument reads behind the call as it read before'; 0 by the template 'total and deterministic' (their statements: YtnnakikhfacnpaaTotals.lean).
  GIVEN WITH THE SEED: the statements are not yours to turn. If you find one false, say at which input.
  Laid BY PROGRAM, IN A SANDBOX (cutbox-rows.mjs): the forced cells as the released guide's own fill.sh prints them over the translation d4ff123c50de1d66… (all of the seat's roots in one cut). By AI agents, Wed Nov 11 2026. No macro, syntax, notation, axiom, sorry.
-/
import Derived.Test.YtnnakikhfacnpaaChecked
import GoSem.Claim
import GoSem.ClaimJoined
import GoSem.ClaimMapViews
import Derived.JoinedTies
import Derived.KernelRfl
namespace Go.Proofs.Ytnnakikhfacnpaa
/- THE CELL 'sum', in the pinned program and in every row, IS THE sha256 OF THE DUMP (.gsa) THAT YtnnakikhfacnpaaProg.lean LOADS. Nothing in Lean hashes anything: it is a label: what it is worth is what the hold of that sum in a sandbox is worth. -/
noncomputable def Try.pinned : Pinned := { name := "ytnnakikhfacnpaa", sum := "d4ff123c50de1d66b090c8beccbdf4cf343e9dc65035276a6b1d717a759675cf", checked := Try.checked }
namespace Rows
def none {H : Type} : Left H := { results := [], args := [] }

/-- 'saleroomlaw34.ClockpriceRises': WHATEVER THE INPUT: true; the input reads as it did. -/
def clockpriceRisesSpec : ChangeSpec := { name := "clockpriceRises", fn := fun _ => fun
  | [d1, d2, d3] => { results := [.lit (.bool true)], args := [d1, d2, d3] }
  | _ => none }
def clockpriceRisesRow : OpenClaim := { program := "ytnnakikhfacnpaa", sum := "d4ff123c50de1d66b090c8beccbdf4cf343e9dc65035276a6b1d717a759675cf", func := "saleroom/saleroomlaw34.ClockpriceRises", spec := "clockpriceRises", unfollowed := true, recurses := true, apart := false }
def ClockpriceRisesSaid : Prop := clockpriceRisesRow.holds Try.pinned (OpenSpec.ofChange clockpriceRisesSpec)

/-- ITS FALSE NEIGHBOUR: 'it returns false'. Refute it at one input. -/
def clockpriceRisesWrong : ChangeSpec := { name := "clockpriceRises", fn := fun _ => fun
  | [d1, d2, d3] => { results := [.lit (.bool false)], args := [d1, d2, d3] }
  | _ => none }
def ClockpriceRisesWrongFalsely : Prop := clockpriceRisesRow.holds Try.pinned (OpenSpec.ofChange clockpriceRisesWrong)

/-- 'saleroomlaw34.ClockpriceChecks': WHATEVER THE INPUT: true; the input reads as it did. -/
def clockpriceChecksSpec : ChangeSpec := { name := "clockpriceChecks", fn := fun _ => fun
  | [d] => { results := [.lit (.bool true)], args := [d] }
  | _ => none }
def clockpriceChecksRow : OpenClaim := { program := "ytnnakikhfacnpaa", sum := "d4ff123c50de1d66b090c8beccbdf4cf343e9dc65035276a6b1d717a759675cf", func := "saleroom/saleroomlaw34.ClockpriceChecks", spec := "clockpriceChecks", unfollowed := true, recurses := true, apart := false }
def ClockpriceChecksSaid : Prop := clockpriceChecksRow.holds Try.pinned (OpenSpec.ofChange clockpriceChecksSpec)

/-- ITS FALSE NEIGHBOUR: 'it returns false'. Refute it at one input. -/
def clockpriceChecksWrong : ChangeSpec := { name := "clockpriceChecks", fn := fun _ => fun
  | [d] => { results := [.lit (.bool false)], args := [d] }
  | _ => none }
def ClockpriceChecksWrongFalsely : Prop := clockpriceChecksRow.holds Try.pinned (OpenSpec.ofChange clockpriceChecksWrong)

/-- 'saleroomlaw34.ClockpriceStarts': WHATEVER THE INPUT: true; the input reads as it did. -/
def clockpriceStartsSpec : ChangeSpec := { name := "clockpriceStarts", fn := fun _ => fun
  | [d] => { results := [.lit (.bool true)], args := [d] }
  | _ => none }
def clockpriceStartsRow : OpenClaim := { program := "ytnnakikhfacnpaa", sum := "d4ff123c50de1d66b090c8beccbdf4cf343e9dc65035276a6b1d717a759675cf", func := "saleroom/saleroomlaw34.ClockpriceStarts", spec := "clockpriceStarts", unfollowed := true, recurses := true, apart := false }
def ClockpriceStartsSaid : Prop := clockpriceStartsRow.holds Try.pinned (OpenSpec.ofChange clockpriceStartsSpec)

/-- ITS FALSE NEIGHBOUR: 'it returns false'. Refute it at one input. -/
def clockpriceStartsWrong : ChangeSpec := { name := "clockpriceStarts", fn := fun _ => fun
  | [d] => { results := [.lit (.bool false)], args := [d] }
  | _ => none }
def ClockpriceStartsWrongFalsely : Prop := clockpriceStartsRow.holds Try.pinned (OpenSpec.ofChange clockpriceStartsWrong)

/-- 'saleroomlaw34.ClockpriceTicks': WHATEVER THE INPUT: true; the input reads as it did. -/
def clockpriceTicksSpec : ChangeSpec := { name := "clockpriceTicks", fn := fun _ => fun
  | [d1, d2, d3] => { results := [.lit (.bool true)], args := [d1, d2, d3] }
  | _ => none }
def clockpriceTicksRow : OpenClaim := { program := "ytnnakikhfacnpaa", sum := "d4ff123c50de1d66b090c8beccbdf4cf343e9dc65035276a6b1d717a759675cf", func := "saleroom/saleroomlaw34.ClockpriceTicks", spec := "clockpriceTicks", unfollowed := true, recurses := true, apart := false }
def ClockpriceTicksSaid : Prop := clockpriceTicksRow.holds Try.pinned (OpenSpec.ofChange clockpriceTicksSpec)

/-- ITS FALSE NEIGHBOUR: 'it returns false'. Refute it at one input. -/
def clockpriceTicksWrong : ChangeSpec := { name := "clockpriceTicks", fn := fun _ => fun
  | [d1, d2, d3] => { results := [.lit (.bool false)], args := [d1, d2, d3] }
  | _ => none }
def ClockpriceTicksWrongFalsely : Prop := clockpriceTicksRow.holds Try.pinned (OpenSpec.ofChange clockpriceTicksWrong)

/-- 'saleroomlaw34.ClockpriceCounts': WHATEVER THE INPUT: true; the input reads as it did. -/
def clockpriceCountsSpec : ChangeSpec := { name := "clockpriceCounts", fn := fun _ => fun
  | [d1, d2, d3] => { results := [.lit (.bool true)], args := [d1, d2, d3] }
  | _ => none }
def clockpriceCountsRow : OpenClaim := { program := "ytnnakikhfacnpaa", sum := "d4ff123c50de1d66b090c8beccbdf4cf343e9dc65035276a6b1d717a759675cf", func := "saleroom/saleroomlaw34.ClockpriceCounts", spec := "clockpriceCounts", unfollowed := true, recurses := true, apart := false }
def ClockpriceCountsSaid : Prop := clockpriceCountsRow.holds Try.pinned (OpenSpec.ofChange clockpriceCountsSpec)

/-- ITS FALSE NEIGHBOUR: 'it returns false'. Refute it at one input. -/
def clockpriceCountsWrong : ChangeSpec := { name := "clockpriceCounts", fn := fun _ => fun
  | [d1, d2, d3] => { results := [.lit (.bool false)], args := [d1, d2, d3] }
  | _ => none }
def ClockpriceCountsWrongFalsely : Prop := clockpriceCountsRow.holds Try.pinned (OpenSpec.ofChange clockpriceCountsWrong)

/-- 'saleroomlaw03.ChecksumCRC': WHATEVER THE INPUT: true; the input reads as it did. -/
def checksumCRCSpec : ChangeSpec := { name := "checksumCRC", fn := fun _ => fun
  | [d1, d2] => { results := [.lit (.bool true)], args := [d1, d2] }
  | _ => none }
def checksumCRCRow : OpenClaim := { program := "ytnnakikhfacnpaa", sum := "d4ff123c50de1d66b090c8beccbdf4cf343e9dc65035276a6b1d717a759675cf", func := "saleroom/saleroomlaw03.ChecksumCRC", spec := "checksumCRC", apart := false }
def ChecksumCRCSaid : Prop := checksumCRCRow.holds Try.pinned (OpenSpec.ofChange checksumCRCSpec)

/-- ITS FALSE NEIGHBOUR: 'it returns false'. Refute it at one input. -/
def checksumCRCWrong : ChangeSpec := { name := "checksumCRC", fn := fun _ => fun
  | [d1, d2] => { results := [.lit (.bool false)], args := [d1, d2] }
  | _ => none }
def ChecksumCRCWrongFalsely : Prop := checksumCRCRow.holds Try.pinned (OpenSpec.ofChange checksumCRCWrong)

/-- 'saleroomlaw03.ChecksumUpdates': WHATEVER THE INPUT: true; the input reads as it did. -/
def checksumUpdatesSpec : ChangeSpec := { name := "checksumUpdates", fn := fun _ => fun
  | [d1, d2, d3] => { results := [.lit (.bool true)], args := [d1, d2, d3] }
  | _ => none }
def checksumUpdatesRow : OpenClaim := { program := "ytnnakikhfacnpaa", sum := "d4ff123c50de1d66b090c8beccbdf4cf343e9dc65035276a6b1d717a759675cf", func := "saleroom/saleroomlaw03.ChecksumUpdates", spec := "checksumUpdates", apart := false }
def ChecksumUpdatesSaid : Prop := checksumUpdatesRow.holds Try.pinned (OpenSpec.ofChange checksumUpdatesSpec)

/-- ITS FALSE NEIGHBOUR: 'it returns false'. Refute it at one input. -/
def checksumUpdatesWrong : ChangeSpec := { name := "checksumUpdates", fn := fun _ => fun
  | [d1, d2, d3] => { results := [.lit (.bool false)], args := [d1, d2, d3] }
  | _ => none }
def ChecksumUpdatesWrongFalsely : Prop := checksumUpdatesRow.holds Try.pinned (OpenSpec.ofChange checksumUpdatesWrong)

/-- 'saleroomlaw03.ChecksumSeals': WHATEVER THE INPUT: true; the input reads as it did. -/
def checksumSealsSpec : ChangeSpec := { name := "checksumSeals", fn := fun _ => fun
  | [d] => { results := [.lit (.bool true)], args := [d] }
  | _ => none }
def checksumSealsRow : OpenClaim := { program := "ytnnakikhfacnpaa", sum := "d4ff123c50de1d66b090c8beccbdf4cf343e9dc65035276a6b1d717a759675cf", func := "saleroom/saleroomlaw03.ChecksumSeals", spec := "checksumSeals", apart := false }
def ChecksumSealsSaid : Prop := checksumSealsRow.holds Try.pinned (OpenSpec.ofChange checksumSealsSpec)

/-- ITS FALSE NEIGHBOUR: 'it returns false'. Refute it at one input. -/
def checksumSealsWrong : ChangeSpec := { name := "checksumSeals", fn := fun _ => fun
  | [d] => { results := [.lit (.bool false)], args := [d] }
  | _ => none }
def ChecksumSealsWrongFalsely : Prop := checksumSealsRow.holds Try.pinned (OpenSpec.ofChange checksumSealsWrong)

/-- 'saleroomlaw03.ChecksumDetects': WHATEVER THE INPUT: true; the input reads as it did. -/
def checksumDetectsSpec : ChangeSpec := { name := "checksumDetects", fn := fun _ => fun
  | [d1, d2, d3] => { results := [.lit (.bool true)], args := [d1, d2, d3] }
  | _ => none }
def checksumDetectsRow : OpenClaim := { program := "ytnnakikhfacnpaa", sum := "d4ff123c50de1d66b090c8beccbdf4cf343e9dc65035276a6b1d717a759675cf", func := "saleroom/saleroomlaw03.ChecksumDetects", spec := "checksumDetects", apart := false }
def ChecksumDetectsSaid : Prop := checksumDetectsRow.holds Try.pinned (OpenSpec.ofChange checksumDetectsSpec)

/-- ITS FALSE NEIGHBOUR: 'it returns false'. Refute it at one input. -/
def checksumDetectsWrong : ChangeSpec := { name := "checksumDetects", fn := fun _ => fun
  | [d1, d2, d3] => { results := [.lit (.bool false)], args := [d1, d2, d3] }
  | _ => none }
def ChecksumDetectsWrongFalsely : Prop := checksumDetectsRow.holds Try.pinned (OpenSpec.ofChange checksumDetectsWrong)

/-- 'saleroomlaw03.ChecksumHex': WHATEVER THE INPUT: true; the input reads as it did. -/
def checksumHexSpec : ChangeSpec := { name := "checksumHex", fn := fun _ => fun
  | [d1, d2] => { results := [.lit (.bool true)], args := [d1, d2] }
  | _ => none }
def checksumHexRow : OpenClaim := { program := "ytnnakikhfacnpaa", sum := "d4ff123c50de1d66b090c8beccbdf4cf343e9dc65035276a6b1d717a759675cf", func := "saleroom/saleroomlaw03.ChecksumHex", spec := "checksumHex", apart := false }
def ChecksumHexSaid : Prop := checksumHexRow.holds Try.pinned (OpenSpec.ofChange checksumHexSpec)

/-- ITS FALSE NEIGHBOUR: 'it returns false'. Refute it at one input. -/
def checksumHexWrong : ChangeSpec := { name := "checksumHex", fn := fun _ => fun
  | [d1, d2] => { results := [.lit (.bool false)], args := [d1, d2] }
  | _ => none }
def ChecksumHexWrongFalsely : Prop := checksumHexRow.holds Try.pinned (OpenSpec.ofChange checksumHexWrong)

/-- 'saleroomlaw03.ChecksumHashes': WHATEVER THE INPUT: true; the input reads as it did. -/
def checksumHashesSpec : ChangeSpec := { name := "checksumHashes", fn := fun _ => fun
  | [d1, d2] => { results := [.lit (.bool true)], args := [d1, d2] }
  | _ => none }
def checksumHashesRow : OpenClaim := { program := "ytnnakikhfacnpaa", sum := "d4ff123c50de1d66b090c8beccbdf4cf343e9dc65035276a6b1d717a759675cf", func := "saleroom/saleroomlaw03.ChecksumHashes", spec := "checksumHashes", apart := false }
def ChecksumHashesSaid : Prop := checksumHashesRow.holds Try.pinned (OpenSpec.ofChange checksumHashesSpec)

/-- ITS FALSE NEIGHBOUR: 'it returns false'. Refute it at one input. -/
def checksumHashesWrong : ChangeSpec := { name := "checksumHashes", fn := fun _ => fun
  | [d1, d2] => { results := [.lit (.bool false)], args := [d1, d2] }
  | _ => none }
def ChecksumHashesWrongFalsely : Prop := checksumHashesRow.holds Try.pinned (OpenSpec.ofChange checksumHashesWrong)

/-- 'saleroomlaw03.ChecksumChains': WHATEVER THE INPUT: true; the input reads as it did. -/
def checksumChainsSpec : ChangeSpec := { name := "checksumChains", fn := fun _ => fun
  | [d1, d2, d3, d4] => { results := [.lit (.bool true)], args := [d1, d2, d3, d4] }
  | _ => none }
def checksumChainsRow : OpenClaim := { program := "ytnnakikhfacnpaa", sum := "d4ff123c50de1d66b090c8beccbdf4cf343e9dc65035276a6b1d717a759675cf", func := "saleroom/saleroomlaw03.ChecksumChains", spec := "checksumChains", apart := false }
def ChecksumChainsSaid : Prop := checksumChainsRow.holds Try.pinned (OpenSpec.ofChange checksumChainsSpec)

/-- ITS FALSE NEIGHBOUR: 'it returns false'. Refute it at one input. -/
def checksumChainsWrong : ChangeSpec := { name := "checksumChains", fn := fun _ => fun
  | [d1, d2, d3, d4] => { results := [.lit (.bool false)], args := [d1, d2, d3, d4] }
  | _ => none }
def ChecksumChainsWrongFalsely : Prop := checksumChainsRow.holds Try.pinned (OpenSpec.ofChange checksumChainsWrong)

/- THE SECOND FORM. 'bulk': how many values and letters a reading holds, each counted each time it is reached (what is shared counts as often as it is met; a slice's spare places count too). A statement '..UptoSaid' is the law's where the arguments, and the package variables that the reading takes, are together of bulk at most 1048576: NARROWER than '..Said'. Prove '..Said' where nothing that the law and all that it calls make is longer than what came in: it says more and counts as full. Else prove '..UptoSaid'. A law counts once. -/
mutual
def uptoBulk {H : Type} : DataW H → Nat
  | .lit (.string bytes) => bytes.length + 1
  | .lit _ => 1
  | .nil => 1
  | .ptr d => uptoBulk d + 1
  | .slice elems spare => uptoBulkAll elems + uptoBulkAll spare + 1
  | .agg parts => uptoBulkAll parts + 1
  | .iface _ d => uptoBulk d + 1
  | .map entries => uptoBulkEntries entries + 1
  | .held _ => 1
def uptoBulkAll {H : Type} : List (DataW H) → Nat
  | [] => 0
  | d :: r => uptoBulk d + uptoBulkAll r
def uptoBulkEntries {H : Type} : List (Lit × DataW H) → Nat
  | [] => 0
  | x :: r => uptoBulkEntry x + uptoBulkEntries r
def uptoBulkEntry {H : Type} : Lit × DataW H → Nat
  | (.string bytes, d) => bytes.length + uptoBulk d + 1
  | (_, d) => uptoBulk d + 1
 end
def uptoSmall : (H : Type) → List (DataW H) → Bool := fun _ ds => decide (uptoBulkAll ds ≤ 1048576)
def OpenSpec.upto (s : _root_.Go.ChangeSpec) : _root_.Go.OpenSpec := { _root_.Go.OpenSpec.ofChange s with cond := some uptoSmall }

/-- 'saleroomlaw34.ClockpriceRises', WHERE WHAT IT READS IS OF BULK AT MOST 1048576: true; the input reads as it did. -/
def clockpriceRisesUptoRow : OpenClaim := { program := "ytnnakikhfacnpaa", sum := "d4ff123c50de1d66b090c8beccbdf4cf343e9dc65035276a6b1d717a759675cf", func := "saleroom/saleroomlaw34.ClockpriceRises", spec := "clockpriceRises", unfollowed := true, recurses := true, apart := false, narrowed := true }
def ClockpriceRisesUptoSaid : Prop := clockpriceRisesUptoRow.holds Try.pinned (OpenSpec.upto clockpriceRisesSpec)

/-- 'saleroomlaw34.ClockpriceChecks', WHERE WHAT IT READS IS OF BULK AT MOST 1048576: true; the input reads as it did. -/
def clockpriceChecksUptoRow : OpenClaim := { program := "ytnnakikhfacnpaa", sum := "d4ff123c50de1d66b090c8beccbdf4cf343e9dc65035276a6b1d717a759675cf", func := "saleroom/saleroomlaw34.ClockpriceChecks", spec := "clockpriceChecks", unfollowed := true, recurses := true, apart := false, narrowed := true }
def ClockpriceChecksUptoSaid : Prop := clockpriceChecksUptoRow.holds Try.pinned (OpenSpec.upto clockpriceChecksSpec)

/-- 'saleroomlaw34.ClockpriceStarts', WHERE WHAT IT READS IS OF BULK AT MOST 1048576: true; the input reads as it did. -/
def clockpriceStartsUptoRow : OpenClaim := { program := "ytnnakikhfacnpaa", sum := "d4ff123c50de1d66b090c8beccbdf4cf343e9dc65035276a6b1d717a759675cf", func := "saleroom/saleroomlaw34.ClockpriceStarts", spec := "clockpriceStarts", unfollowed := true, recurses := true, apart := false, narrowed := true }
def ClockpriceStartsUptoSaid : Prop := clockpriceStartsUptoRow.holds Try.pinned (OpenSpec.upto clockpriceStartsSpec)

/-- 'saleroomlaw34.ClockpriceTicks', WHERE WHAT IT READS IS OF BULK AT MOST 1048576: true; the input reads as it did. -/
def clockpriceTicksUptoRow : OpenClaim := { program := "ytnnakikhfacnpaa", sum := "d4ff123c50de1d66b090c8beccbdf4cf343e9dc65035276a6b1d717a759675cf", func := "saleroom/saleroomlaw34.ClockpriceTicks", spec := "clockpriceTicks", unfollowed := true, recurses := true, apart := false, narrowed := true }
def ClockpriceTicksUptoSaid : Prop := clockpriceTicksUptoRow.holds Try.pinned (OpenSpec.upto clockpriceTicksSpec)

/-- 'saleroomlaw34.ClockpriceCounts', WHERE WHAT IT READS IS OF BULK AT MOST 1048576: true; the input reads as it did. -/
def clockpriceCountsUptoRow : OpenClaim := { program := "ytnnakikhfacnpaa", sum := "d4ff123c50de1d66b090c8beccbdf4cf343e9dc65035276a6b1d717a759675cf", func := "saleroom/saleroomlaw34.ClockpriceCounts", spec := "clockpriceCounts", unfollowed := true, recurses := true, apart := false, narrowed := true }
def ClockpriceCountsUptoSaid : Prop := clockpriceCountsUptoRow.holds Try.pinned (OpenSpec.upto clockpriceCountsSpec)

/-- 'saleroomlaw03.ChecksumCRC', WHERE WHAT IT READS IS OF BULK AT MOST 1048576: true; the input reads as it did. -/
def checksumCRCUptoRow : OpenClaim := { program := "ytnnakikhfacnpaa", sum := "d4ff123c50de1d66b090c8beccbdf4cf343e9dc65035276a6b1d717a759675cf", func := "saleroom/saleroomlaw03.ChecksumCRC", spec := "checksumCRC", apart := false, narrowed := true }
def ChecksumCRCUptoSaid : Prop := checksumCRCUptoRow.holds Try.pinned (OpenSpec.upto checksumCRCSpec)

/-- 'saleroomlaw03.ChecksumUpdates', WHERE WHAT IT READS IS OF BULK AT MOST 1048576: true; the input reads as it did. -/
def checksumUpdatesUptoRow : OpenClaim := { program := "ytnnakikhfacnpaa", sum := "d4ff123c50de1d66b090c8beccbdf4cf343e9dc65035276a6b1d717a759675cf", func := "saleroom/saleroomlaw03.ChecksumUpdates", spec := "checksumUpdates", apart := false, narrowed := true }
def ChecksumUpdatesUptoSaid : Prop := checksumUpdatesUptoRow.holds Try.pinned (OpenSpec.upto checksumUpdatesSpec)

/-- 'saleroomlaw03.ChecksumSeals', WHERE WHAT IT READS IS OF BULK AT MOST 1048576: true; the input reads as it did. -/
def checksumSealsUptoRow : OpenClaim := { program := "ytnnakikhfacnpaa", sum := "d4ff123c50de1d66b090c8beccbdf4cf343e9dc65035276a6b1d717a759675cf", func := "saleroom/saleroomlaw03.ChecksumSeals", spec := "checksumSeals", apart := false, narrowed := true }
def ChecksumSealsUptoSaid : Prop := checksumSealsUptoRow.holds Try.pinned (OpenSpec.upto checksumSealsSpec)

/-- 'saleroomlaw03.ChecksumDetects', WHERE WHAT IT READS IS OF BULK AT MOST 1048576: true; the input reads as it did. -/
def checksumDetectsUptoRow : OpenClaim := { program := "ytnnakikhfacnpaa", sum := "d4ff123c50de1d66b090c8beccbdf4cf343e9dc65035276a6b1d717a759675cf", func := "saleroom/saleroomlaw03.ChecksumDetects", spec := "checksumDetects", apart := false, narrowed := true }
def ChecksumDetectsUptoSaid : Prop := checksumDetectsUptoRow.holds Try.pinned (OpenSpec.upto checksumDetectsSpec)

/-- 'saleroomlaw03.ChecksumHex', WHERE WHAT IT READS IS OF BULK AT MOST 1048576: true; the input reads as it did. -/
def checksumHexUptoRow : OpenClaim := { program := "ytnnakikhfacnpaa", sum := "d4ff123c50de1d66b090c8beccbdf4cf343e9dc65035276a6b1d717a759675cf", func := "saleroom/saleroomlaw03.ChecksumHex", spec := "checksumHex", apart := false, narrowed := true }
def ChecksumHexUptoSaid : Prop := checksumHexUptoRow.holds Try.pinned (OpenSpec.upto checksumHexSpec)

/-- 'saleroomlaw03.ChecksumHashes', WHERE WHAT IT READS IS OF BULK AT MOST 1048576: true; the input reads as it did. -/
def checksumHashesUptoRow : OpenClaim := { program := "ytnnakikhfacnpaa", sum := "d4ff123c50de1d66b090c8beccbdf4cf343e9dc65035276a6b1d717a759675cf", func := "saleroom/saleroomlaw03.ChecksumHashes", spec := "checksumHashes", apart := false, narrowed := true }
def ChecksumHashesUptoSaid : Prop := checksumHashesUptoRow.holds Try.pinned (OpenSpec.upto checksumHashesSpec)

/-- 'saleroomlaw03.ChecksumChains', WHERE WHAT IT READS IS OF BULK AT MOST 1048576: true; the input reads as it did. -/
def checksumChainsUptoRow : OpenClaim := { program := "ytnnakikhfacnpaa", sum := "d4ff123c50de1d66b090c8beccbdf4cf343e9dc65035276a6b1d717a759675cf", func := "saleroom/saleroomlaw03.ChecksumChains", spec := "checksumChains", apart := false, narrowed := true }
def ChecksumChainsUptoSaid : Prop := checksumChainsUptoRow.holds Try.pinned (OpenSpec.upto checksumChainsSpec)

end Rows
end Go.Proofs.Ytnnakikhfacnpaa
