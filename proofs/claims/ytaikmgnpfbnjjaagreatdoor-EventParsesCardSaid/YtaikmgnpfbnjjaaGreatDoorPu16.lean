/- Plain: what Check of a setup answers, and which units its set-asides leave open. Contracts of bundle.Meet, Within and Sub. Printed by gen_sew.py. Plain: which bundles a setup allows. -/
import Derived.Test.YtaikmgnpfbnjjaaGreatDoorPu13
import Derived.Test.YtaikmgnpfbnjjaaGreatDoorPu07
import Derived.Deep.QuietTactic
import Derived.BigQuiet
import Derived.Deep.RegionHeld3
namespace Go.Proofs.YtaikmgnpfbnjjaaGreatDoor.Se
open Go.ChangeShapes Go.WideShapes Go.ChangeAt Go.RowKit Gn Cat Lex Ros
set_option linter.unusedVariables false
set_option linter.unusedSimpArgs false
/-- a cap, a set-aside: three numbers -/
structure Cp where
  bidder : Int
  group : Int
  units : Int
structure Asd where
  prod : Int
  cls : Int
  units : Int
abbrev Cp.cells (x : Cp) : List Value := [.int .i64 x.bidder, .int .i64 x.group, .int .i64 x.units]
abbrev Asd.cells (x : Asd) : List Value := [.int .i64 x.prod, .int .i64 x.cls, .int .i64 x.units]
abbrev CapS (w : World) (v : Value) (l : List Cp) : Prop := Sl w 3 v l.length (l.flatMap Cp.cells)
abbrev AsdS (w : World) (v : Value) (l : List Asd) : Prop := Sl w 3 v l.length (l.flatMap Asd.cells)
/-- the error of cap number i, behind those before it -/
def capOne (nb : Nat) (l : List Cp) (i : Nat) (c : Cp) : Int :=
  if c.bidder < -1 ∨ (nb : Int) ≤ c.bidder then 6
  else if c.group < 0 ∨ 4 < c.group ∨ c.units < 0 ∨ 24 < c.units then 4
  else if (l.take i).any (fun d => d.bidder == c.bidder && d.group == c.group) = true then 7 else 0
def asdOne (ps : List Prod) (l : List Asd) (i : Nat) (a : Asd) : Int :=
  if a.prod < 0 ∨ (ps.length : Int) ≤ a.prod then 6
  else if a.cls < 1 ∨ 4 < a.cls ∨ a.units < 1 ∨ (ps.getD a.prod.toNat Prod.none).supply < a.units then 4
  else if (l.take i).any (fun d => d.prod == a.prod) = true then 7 else 0
/-- the first error of the elements from number k on, of m that are left -/
def firstE (f : Nat → Int) (k : Nat) : Nat → Int
  | 0 => 0
  | m + 1 => if f k ≠ 0 then f k else firstE f (k + 1) m
theorem firstE_step {f : Nat → Int} {k m : Nat} (h : f k = 0) : firstE f k (m + 1) = firstE f (k + 1) m := by
  rw [firstE, if_neg (fun h2 => h2 h)]
theorem firstE_stop {f : Nat → Int} {k m : Nat} (h : f k ≠ 0) : firstE f k (m + 1) = f k := by
  rw [firstE, if_pos h]
def capsE (nb : Nat) (l : List Cp) : Int := if 16 < l.length then 3 else firstE (fun i => capOne nb l i (l.getD i ⟨0, 0, 0⟩)) 0 l.length
def asdsE (ps : List Prod) (l : List Asd) : Int := if 6 < l.length then 3 else firstE (fun i => asdOne ps l i (l.getD i ⟨0, 0, 0⟩)) 0 l.length
/-- the error of a setup -/
def setE (ps : List Prod) (bs : List Bid) (cs : List Cp) (ad : List Asd) : Int :=
  if checkE ps ≠ 0 then checkE ps
  else if rosE bs ≠ 0 then rosE bs
  else if capsE bs.length cs ≠ 0 then capsE bs.length cs
  else asdsE ps ad
/-- the units that are open, and the classes of the set-asides -/
def openF (ps : List Prod) (ad : List Asd) : Nat → Int := ad.foldl (fun p a => upd p a.prod.toNat (p a.prod.toNat - a.units)) (supP ps)
def clsF (ad : List Asd) : Nat → Int := ad.foldl (fun p a => upd p a.prod.toNat a.cls) zero6
theorem setE_parts {ps : List Prod} {bs : List Bid} {cs : List Cp} {ad : List Asd} (h : setE ps bs cs ad = 0) : checkE ps = 0 ∧ rosE bs = 0 ∧ capsE bs.length cs = 0 ∧ asdsE ps ad = 0 := by
  unfold setE at h
  split at h
  · rename_i h1; exact absurd h h1
  · rename_i h1
    split at h
    · rename_i h2; exact absurd h h2
    · rename_i h2
      split at h
      · rename_i h3; exact absurd h h3
      · rename_i h3
        exact ⟨Decidable.of_not_not h1, Decidable.of_not_not h2, Decidable.of_not_not h3, h⟩
end Go.Proofs.YtaikmgnpfbnjjaaGreatDoor.Se
namespace Go.Proofs.YtaikmgnpfbnjjaaGreatDoor.Se
open Go.ChangeShapes Go.WideShapes Go.ChangeAt Go.RowKit Cat Lex
set_option linter.unusedVariables false
set_option linter.unusedSimpArgs false
structure MMid (w wr : World) (b p : Nat → Int) : Prop where
  a : Box wr w.heap.size p
  b : Box wr (w.heap.size + 1) b
  res : Box wr (w.heap.size + 2) zero6
  bel : Below w.heap.size w wr
theorem MMid.put {w wr : World} {b p : Nat → Int} (h : MMid w wr b p) (k : Nat) (hk : k < 6) (v : Int) : MMid w (wr.setCell ⟨w.heap.size, k, none⟩ (.int .i64 v)) b (fun j => if j = k then v else p j) :=
  ⟨h.a.set k hk v, h.b.other (by omega) _, h.res.other (by omega) _, h.bel.setCell (Nat.le_refl _) _⟩
theorem MMid.same {w wr : World} {b p q : Nat → Int} (h : MMid w wr b p) (he : ∀ k, k < 6 → p k = q k) : MMid w wr b q := ⟨h.a.congr he, h.b, h.res, h.bel⟩
theorem MMid.drew {w wr : World} {b p : Nat → Int} (h : MMid w wr b p) : MMid w wr.drew b p := ⟨h.a.drew, h.b.drew, h.res.drew, h.bel.drew⟩
end Go.Proofs.YtaikmgnpfbnjjaaGreatDoor.Se
namespace Go.Proofs.YtaikmgnpfbnjjaaGreatDoor.Se
open Go.ChangeShapes Go.WideShapes Go.ChangeAt Go.RowKit Gn Cat Lex Ros
set_option linter.unusedVariables false
set_option linter.unusedSimpArgs false
/-- a setup -/
structure SetD where
  ps : List Prod
  bs : List Bid
  cs : List Cp
  ad : List Asd
def SetD.none : SetD := ⟨[], [], [], []⟩
abbrev SetD.err (S : SetD) : Int := setE S.ps S.bs S.cs S.ad
def clsOf (S : SetD) (i : Int) : Int := (S.bs.getD i.toNat Bid.none).cls
/-- units that count for the open units -/
def outP (k6 : Nat → Int) (c : Int) (b : Nat → Int) (k : Nat) : Int := if k6 k = 0 ∨ k6 k = c then 0 else b k
/-- the sums of the first bundles -/
def sumL (l : List (Nat → Int)) (n k : Nat) : Int := ((l.take n).map fun b => b k).sum
def outL (S : SetD) (l : List (Nat → Int)) : Nat → Nat → Int
  | 0, _ => 0
  | n + 1, k => outL S l n k + outP (clsF S.ad) (clsOf S (n : Int)) (l.getD n zero6) k
/-- too many units of product k are sold -/
def over (S : SetD) (l : List (Nat → Int)) (n k : Nat) : Bool := decide (supP S.ps k < sumL l n k) || decide (openF S.ps S.ad k < outL S l n k)
end Go.Proofs.YtaikmgnpfbnjjaaGreatDoor.Se
