/- Contract of settle.invoice, whole. -/
import Derived.Test.YthehchdonmmpaaaGreatDoorSt4e
import Derived.Test.YthehchdonmmpaaaGreatDoorSt4z
import Derived.Test.YthehchdonmmpaaaGreatDoorSt4p
namespace Go.Proofs.YthehchdonmmpaaaGreatDoor.St
open Go.ChangeShapes Go.WideShapes Go.ChangeAt Go.RowKit Gn Cat Lex Pr Ros Fr
theorem invoice_any (ps : List Prod) (bs : List Bid) (A1 A2 A3 A4 : Option Addr) (c1 c2 c3 c4 : Nat) (v3 v4 : Value) (k : Nat) (hk : k < bs.length) (won : Nat → Int) (neg : Bool) (l1 l2 : List Nat) (w : World) (hs : SetP w (.slice A1 ps.length c1) ps) (hb : BidS w (.slice A2 bs.length c2) bs) (hb8 : bs.length ≤ 5000) (hl1 : l1.length ≤ 1000) (hl2 : l2.length ≤ 1000) (g1 : Dg l1) (g2 : Dg l2) (hn : NS w (.slice A3 l1.length c3) l1) (hd : NS w (.slice A4 l2.length c4) l2) :
    Calls Tryz.prog 14 #[.agg #[.slice A1 ps.length c1, .slice A2 bs.length c2, v3, v4], .int .i64 (k : Int), .agg #[.int .i64 (won 0), .int .i64 (won 1), .int .i64 (won 2), .int .i64 (won 3), .int .i64 (won 4), .int .i64 (won 5)], .agg #[.bool neg, .slice A3 l1.length c3, .slice A4 l2.length c4]] w (OnePost (invR ps bs[k].budget k won ⟨neg, .slice A3 l1.length c3, .slice A4 l2.length c4, l1, l2⟩) w) := by
  by_cases h : validB won = true ∧ within6 won (supP ps) = true ∧ validF neg l1 l2 = true ∧ neg = false ∧ ¬ (eq6 won zero6 = true ∧ l1.length ≠ 0)
  · obtain ⟨h1, h2, h3, h4, h5⟩ := h
    by_cases hz : l1.length = 0
    · exact invoice_zero ps bs A1 A2 A3 A4 c1 c2 c3 c4 v3 v4 k hk won neg l1 l2 w hs hb hb8 hl1 hl2 g1 g2 hn hd ⟨h1, h2, h3, h4, hz⟩
    · refine invoice_pos ps bs A1 A2 A3 A4 c1 c2 c3 c4 v3 v4 k hk won neg l1 l2 w hs hb hb8 hl1 hl2 g1 g2 hn hd ⟨h1, h2, h3, h4, hz, ?_⟩
      cases e : eq6 won zero6 with
      | false => rfl
      | true => exact absurd ⟨e, hz⟩ h5
  · exact invoice_early ps bs A1 A2 A3 A4 c1 c2 c3 c4 v3 v4 k hk won neg l1 l2 w hs hb hb8 hl1 hl2 g1 g2 hn hd h
end Go.Proofs.YthehchdonmmpaaaGreatDoor.St
