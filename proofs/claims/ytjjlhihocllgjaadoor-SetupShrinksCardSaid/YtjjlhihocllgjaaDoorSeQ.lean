/- Plain: the text of a setup, and what a text reads as. -/
import Derived.Test.YtjjlhihocllgjaaDoorSeF
import Derived.Test.YtjjlhihocllgjaaDoorSeP
import Derived.Test.YtjjlhihocllgjaaDoorSeN
namespace Go.Proofs.YtjjlhihocllgjaaDoor.Se
open Go.ChangeShapes Go.WideShapes Go.ChangeAt Go.RowKit Gn Cat Lex Ros
set_option linter.unusedVariables false
set_option linter.unusedSimpArgs false
/-- the words that begin a line; any bidder -/
abbrev wProd : ByteArray := ⟨#[112, 114, 111, 100, 117, 99, 116]⟩
abbrev wBid : ByteArray := ⟨#[98, 105, 100, 100, 101, 114]⟩
abbrev wCap : ByteArray := ⟨#[99, 97, 112]⟩
abbrev wAsd : ByteArray := ⟨#[97, 115, 105, 100, 101]⟩
abbrev wAny : ByteArray := ⟨#[42]⟩
/-- words in a line -/
def lineW (ws : List ByteArray) : ByteArray := ⟨(Lib.join (ws.map (·.data.toList)) [32]).toArray⟩ ++ ⟨#[10]⟩
abbrev prodW (p : Prod) : List ByteArray := [wProd, p.name, decS p.supply, decS p.reserve, decS p.points, decS p.group]
abbrev bidW (b : Bid) : List ByteArray := [wBid, b.name, decS b.cls, decS b.budget, decS b.points]
def capN (bs : List Bid) (i : Int) : ByteArray := if 0 ≤ i then (bs.getD i.toNat Bid.none).name else wAny
abbrev capW (bs : List Bid) (c : Cp) : List ByteArray := [wCap, capN bs c.bidder, decS c.group, decS c.units]
abbrev asdW (ps : List Prod) (a : Asd) : List ByteArray := [wAsd, (ps.getD a.prod.toNat Prod.none).name, decS a.cls, decS a.units]
/-- all lines, in order -/
def linesW (S : SetD) : List (List ByteArray) := S.ps.map prodW ++ (S.bs.map bidW ++ (S.cs.map (capW S.bs) ++ S.ad.map (asdW S.ps)))
/-- lines one behind the other -/
def catL (t : ByteArray) (ls : List (List ByteArray)) : ByteArray := ls.foldl (fun t ws => t ++ lineW ws) t
theorem catL_nil (t : ByteArray) : catL t [] = t := rfl
theorem catL_cons (t : ByteArray) (w : List ByteArray) (r : List (List ByteArray)) : catL t (w :: r) = catL (t ++ lineW w) r := rfl
theorem catL_app (t : ByteArray) (a b : List (List ByteArray)) : catL t (a ++ b) = catL (catL t a) b := by unfold catL; rw [List.foldl_append]
theorem catL_snoc (t : ByteArray) (a : List (List ByteArray)) (w : List ByteArray) : catL t (a ++ [w]) = catL t a ++ lineW w := by rw [catL_app]; rfl
theorem map_take {α β : Type} (f : α → β) (l : List α) (k : Nat) (h : k < l.length) : (l.take (k + 1)).map f = (l.take k).map f ++ [f l[k]] := by
  rw [List.take_succ_eq_append_getElem h, List.map_append]; rfl
def textS (S : SetD) : ByteArray := catL ⟨#[]⟩ (linesW S)
/-- the number of words of a line by its first word -/
def widthW (w : ByteArray) : Nat := if eqB w wProd then 6 else if eqB w wBid then 5 else if eqB w wCap then 4 else if eqB w wAsd then 4 else 0
/-- the error of a line's name, and the index that it stands for -/
def nameE (S : SetD) (w0 w1 : ByteArray) : Int :=
  if eqB w0 wProd then (if nameOk w1 then 0 else 5)
  else if eqB w0 wBid then (if nameOk w1 then 0 else 5)
  else if eqB w0 wCap then (if eqB w1 wAny then 0 else if (findB S.bs w1).isSome then 0 else 6)
  else if (findP S.ps w1).isSome then 0 else 6
def idxW (S : SetD) (w0 w1 : ByteArray) : Int :=
  if eqB w0 wCap then (if eqB w1 wAny then -1 else (((findB S.bs w1).getD 0 : Nat) : Int)) else (((findP S.ps w1).getD 0 : Nat) : Int)
def numsE : List ByteArray → Int
  | [] => 0
  | w :: r => if numE w ≠ 0 then numE w else numsE r
abbrev wd (ws : List ByteArray) (i : Nat) : ByteArray := ws.getD i ⟨#[]⟩
def lineE (S : SetD) (ws : List ByteArray) : Int :=
  if widthW (wd ws 0) = 0 then 22
  else if ws.length ≠ widthW (wd ws 0) then 2
  else if nameE S (wd ws 0) (wd ws 1) ≠ 0 then nameE S (wd ws 0) (wd ws 1)
  else numsE (ws.drop 2)
def stepW (S : SetD) (ws : List ByteArray) : SetD :=
  if eqB (wd ws 0) wProd then { S with ps := S.ps ++ [⟨wd ws 1, numV (wd ws 2), numV (wd ws 3), numV (wd ws 4), numV (wd ws 5)⟩] }
  else if eqB (wd ws 0) wBid then { S with bs := S.bs ++ [⟨wd ws 1, numV (wd ws 2), numV (wd ws 3), numV (wd ws 4)⟩] }
  else if eqB (wd ws 0) wCap then { S with cs := S.cs ++ [⟨idxW S (wd ws 0) (wd ws 1), numV (wd ws 2), numV (wd ws 3)⟩] }
  else { S with ad := S.ad ++ [⟨idxW S (wd ws 0) (wd ws 1), numV (wd ws 2), numV (wd ws 3)⟩] }
/-- the lines from number i on, behind what was read -/
def readGo : SetD → List ByteArray → Nat → Except (Nat × Int) SetD
  | S, [], _ => .ok S
  | S, l :: r, i =>
    if l.size = 0 then readGo S r (i + 1)
    else if lineE S (splitS 32 l) ≠ 0 then .error (i + 1, lineE S (splitS 32 l))
    else readGo (stepW S (splitS 32 l)) r (i + 1)
/-- what Parse answers -/
structure ReadR where
  S : SetD
  n : Int
  e : Int
def readS (t : ByteArray) : ReadR :=
  if 4000 < t.size then ⟨SetD.none, 0, 3⟩
  else match readGo SetD.none (splitS 10 t) 0 with
    | .error (n, e) => ⟨SetD.none, (n : Int), e⟩
    | .ok S => if S.err ≠ 0 then ⟨SetD.none, 0, S.err⟩ else ⟨S, 0, 0⟩
end Go.Proofs.YtjjlhihocllgjaaDoor.Se
