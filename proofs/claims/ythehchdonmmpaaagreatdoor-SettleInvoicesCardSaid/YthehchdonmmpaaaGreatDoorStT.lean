/- Plain: what the invoices of a sale are. -/
import Derived.Test.YthehchdonmmpaaaGreatDoorRosT
import Derived.Test.YthehchdonmmpaaaGreatDoorStC
import Derived.Test.YthehchdonmmpaaaGreatDoorFs0
import Derived.Test.YthehchdonmmpaaaGreatDoorPs14
namespace Go.Proofs.YthehchdonmmpaaaGreatDoor.St
open Go.ChangeShapes Go.WideShapes Go.ChangeAt Go.RowKit Gn Cat Lex Pr Ros Fr
set_option linter.unusedVariables false
set_option linter.unusedSimpArgs false
/-- a payment as it lies in memory: the fraction's parts and what they read as -/
structure Frc where
  neg : Bool
  v1 : Value
  v2 : Value
  num : List Nat
  den : List Nat
abbrev Frc.cells (f : Frc) : List Value := [.bool f.neg, f.v1, f.v2]
theorem frc_len (x : Frc) : x.cells.length = 3 := rfl
def Frc.none : Frc := ⟨false, .slice Option.none 0 0, .slice Option.none 0 0, [], []⟩
/-- the payments' own parts read -/
def FrcOk (w : World) (l : List Frc) : Prop := ∀ f ∈ l, NS w f.v1 f.num ∧ NS w f.v2 f.den ∧ Dg f.num ∧ Dg f.den
theorem FrcOk.keep {w w' : World} {l : List Frc} (h : FrcOk w l) (b : Below w.heap.size w w') : FrcOk w' l := fun f hf => ⟨(h f hf).1.keep b, (h f hf).2.1.keep b, (h f hf).2.2⟩
abbrev bunCells (p : Nat → Int) : List Value := [.int .i64 (p 0), .int .i64 (p 1), .int .i64 (p 2), .int .i64 (p 3), .int .i64 (p 4), .int .i64 (p 5)]
theorem bun_len (p : Nat → Int) : (bunCells p).length = 6 := rfl
/-- lists of bundles, of payments, in memory -/
abbrev BunS (w : World) (v : Value) (l : List (Nat → Int)) : Prop := Sl w 6 v l.length (l.flatMap bunCells)
abbrev FrcS (w : World) (v : Value) (l : List Frc) : Prop := Sl w 3 v l.length (l.flatMap Frc.cells)
def within6 (a b : Nat → Int) : Bool := (List.range 6).all fun i => decide (a i ≤ b i)
theorem within6_iff {a b : Nat → Int} : within6 a b = true ↔ ∀ i, i < 6 → a i ≤ b i := by
  unfold within6
  simp only [List.all_eq_true, List.mem_range, decide_eq_true_eq]
/-- the rounded payment -/
def upN (f : Frc) : Nat := ceilN (nat f.num) (nat f.den)
/-- the invoice of a bidder -/
def invR (ps : List Prod) (bud : Int) (i : Nat) (won : Nat → Int) (f : Frc) : Except Int Inv :=
  if validB won = true ∧ within6 won (supP ps) = true then
    if validF f.neg f.num f.den = true then
      if f.neg = false ∧ upN f ≤ 1000000 ∧ (eq6 won zero6 = true → nat f.num = 0) then
        if sumE Prod.reserve won ps + (upN f : Int) ≤ 1000000 then
          if bud ≠ 0 ∧ bud < sumE Prod.reserve won ps + (upN f : Int) then .error 17
          else .ok ⟨(i : Int), won, sumE Prod.reserve won ps, (upN f : Int), sumE Prod.reserve won ps + (upN f : Int)⟩
        else .error 4
      else .error 4
    else .error 2
  else .error 4
section
variable (ps : List Prod) (bs : List Bid) (won : List (Nat → Int)) (net : List Frc)
def invAt (k : Nat) : Except Int Inv := invR ps (bs.getD k Bid.none).budget k (won.getD k zero6) (net.getD k Frc.none)
def invsGo : Nat → Except Int (List Inv)
  | 0 => .ok []
  | k + 1 => match invsGo k with
    | .error e => .error e
    | .ok L => match invAt ps bs won net k with
      | .error e => .error e
      | .ok x => .ok (if eq6 (won.getD k zero6) zero6 = true then L else L ++ [x])
/-- what Invoices computes -/
def invsR : Except Int (List Inv) :=
  if checkE ps ≠ 0 then .error (checkE ps)
  else if rosE bs ≠ 0 then .error (rosE bs)
  else if won.length ≠ bs.length ∨ net.length ≠ bs.length then .error 3
  else invsGo ps bs won net bs.length
variable {ps bs won net}
theorem invsGo_step {k : Nat} {L : List Inv} (h : invsGo ps bs won net k = .ok L) : invsGo ps bs won net (k + 1) = match invAt ps bs won net k with
      | .error e => .error e
      | .ok x => .ok (if eq6 (won.getD k zero6) zero6 = true then L else L ++ [x]) := by
  rw [invsGo, h]
theorem invsGo_err {k : Nat} {e : Int} (h : invsGo ps bs won net k = .error e) : ∀ m, k ≤ m → invsGo ps bs won net m = .error e
  | 0, hm => by
    obtain rfl : k = 0 := by omega
    exact h
  | m + 1, hm => by
    by_cases e1 : k = m + 1
    · rw [← e1]; exact h
    · rw [invsGo, invsGo_err h m (by omega)]
theorem invsGo_len : ∀ {k : Nat} {L : List Inv}, invsGo ps bs won net k = .ok L → L.length ≤ k
  | 0, L, h => by cases h; simp
  | k + 1, L, h => by
    cases hk : invsGo ps bs won net k with
    | error e => rw [invsGo, hk] at h; cases h
    | ok L' =>
      have hl := invsGo_len hk
      rw [invsGo_step hk] at h
      cases ha : invAt ps bs won net k with
      | error e => rw [ha] at h; cases h
      | ok x =>
        rw [ha] at h
        simp only [Except.ok.injEq] at h
        subst h
        split
        · omega
        · rw [List.length_append]; simp; omega
end
theorem invR_ne {ps : List Prod} {bud : Int} {i : Nat} {won : Nat → Int} {f : Frc} {e : Int} (h : invR ps bud i won f = .error e) : e ≠ 0 := by
  unfold invR at h
  repeat' split at h
  all_goals first | (cases h; decide) | cases h
/-- the parts of a due sum -/
def partI (due n : Int) (i : Nat) : Int := if (i : Int) < due.tmod n then due.tdiv n + 1 else due.tdiv n
def instL (due : Int) (n : Nat) : List Int := (List.range n).map (partI due n)
def instR (due n : Int) : Except Int (List Int) := if 0 ≤ due ∧ due ≤ 1000000 ∧ 1 ≤ n ∧ n ≤ 12 then .ok (instL due n.toNat) else .error 4
theorem instL_len {due : Int} {n : Nat} : (instL due n).length = n := by simp [instL]
theorem instL_take {due : Int} {n k : Nat} (h : k < n) : (instL due n).take (k + 1) = (instL due n).take k ++ [partI due n k] := by
  rw [List.take_succ_eq_append_getElem (by rw [instL_len]; exact h)]
  simp [instL]
theorem instL_at {due : Int} {n k : Nat} (h : k < (instL due n).length) : (instL due n)[k] = partI due n k := by simp [instL]
theorem tdiv_facts {d n : Int} (h0 : 0 ≤ d) (h1 : d ≤ 1000000) (hn : 1 ≤ n) : 0 ≤ d.tdiv n ∧ d.tdiv n ≤ 1000000 ∧ 0 ≤ d.tmod n ∧ d.tmod n < n ∧ d.tdiv n * n + d.tmod n = d := by
  rw [Int.tdiv_eq_ediv_of_nonneg h0, Int.tmod_eq_emod_of_nonneg h0]
  have a := Int.ediv_nonneg h0 (show 0 ≤ n by omega)
  have b : d / n ≤ d := Int.ediv_le_self n h0
  have c := Int.emod_nonneg d (show n ≠ 0 by omega)
  have e := Int.emod_lt_of_pos d (show 0 < n by omega)
  have f := Int.ediv_mul_add_emod d n
  omega
def okL : Except Int (List Int) → List Int
  | .ok L => L
  | .error _ => []
def erL : Except Int (List Int) → Int
  | .ok _ => 0
  | .error x => x
def InstPost (R : Except Int (List Int)) (w : World) (e : Ending) (w' : World) : Prop := ∃ v', e = .returned (.tuple #[v', .int .i64 (erL R)]) ∧ So.IS w' v' (okL R) ∧ Below w.heap.size w w'
end Go.Proofs.YthehchdonmmpaaaGreatDoor.St
