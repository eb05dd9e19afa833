/- Plain: bidders, and what the roster computes. -/
import Derived.Test.YthehchdonmmpaaaGreatDoorPs17
import Derived.Test.YthehchdonmmpaaaGreatDoorPs12
namespace Go.Proofs.YthehchdonmmpaaaGreatDoor.Ros
open Go.ChangeShapes Go.WideShapes Go.ChangeAt Go.RowKit Gn Cat Lex
set_option linter.unusedVariables false
set_option linter.unusedSimpArgs false
/-- a bidder -/
structure Bid where
  name : ByteArray
  cls : Int
  budget : Int
  points : Int
def Bid.none : Bid := ⟨⟨#[]⟩, 0, 0, 0⟩
abbrev Bid.cells (p : Bid) : List Value := [.string p.name, .int .i64 p.cls, .int .i64 p.budget, .int .i64 p.points]
theorem bid_len (p : Bid) : p.cells.length = 4 := rfl
/-- a list of bidders in memory -/
abbrev BidS (w : World) (v : Value) (l : List Bid) : Prop := Sl w 4 v l.length (l.flatMap Bid.cells)
/-- a row of bidders in memory -/
abbrev BidRow (w : World) (b o : Nat) (l : List Bid) : Prop := Row w b o (l.flatMap Bid.cells)
theorem BidRow.at_ {w : World} {b o : Nat} {l : List Bid} (h : BidRow w b o l) (k : Nat) (hk : k < l.length) :
    w.cell? ⟨b, o + k * 4, none⟩ = some (.string l[k].name) ∧ w.cell? ⟨b, o + k * 4 + 1, none⟩ = some (.int .i64 l[k].cls) ∧ w.cell? ⟨b, o + k * 4 + 2, none⟩ = some (.int .i64 l[k].budget) ∧ w.cell? ⟨b, o + k * 4 + 3, none⟩ = some (.int .i64 l[k].points) :=
  ⟨h.elem0 bid_len k hk (by omega) _ rfl, h.elem bid_len k hk 1 (by omega) _ rfl, h.elem bid_len k hk 2 (by omega) _ rfl, h.elem bid_len k hk 3 (by omega) _ rfl⟩
theorem BidRow.take {w : World} {b o : Nat} {l : List Bid} (h : BidRow w b o l) (k : Nat) : BidRow w b o (l.take k) := by
  intro j u hu
  refine h j u ?_
  have e : l.flatMap Bid.cells = (l.take k).flatMap Bid.cells ++ (l.drop k).flatMap Bid.cells := by
    rw [← List.flatMap_append, List.take_append_drop]
  rw [e, List.getElem?_append_left]
  · exact hu
  · exact (List.getElem?_eq_some_iff.1 hu).1
def findFromB (name : ByteArray) : List Bid → Nat → Option Nat
  | [], _ => none
  | p :: r, i => if eqB p.name name then some i else findFromB name r (i + 1)
def findB (l : List Bid) (name : ByteArray) : Option Nat := findFromB name l 0
theorem findFromB_lt {name : ByteArray} : ∀ {l : List Bid} {i k : Nat}, findFromB name l i = some k → i ≤ k ∧ k < i + l.length
  | [], i, k, h => by simp [findFromB] at h
  | p :: r, i, k, h => by
    rw [findFromB] at h
    split at h
    · cases h; simp
    · have := findFromB_lt h
      rw [List.length_cons]
      omega
theorem findFromB_drop {name : ByteArray} {l : List Bid} {k : Nat} (h : k < l.length) (j : Nat) : findFromB name (l.drop k) j = if eqB l[k].name name then some j else findFromB name (l.drop (k + 1)) (j + 1) := by
  rw [List.drop_eq_getElem_cons h]
  rfl
theorem findFromB_end {name : ByteArray} {l : List Bid} (j : Nat) : findFromB name (l.drop l.length) j = none := by
  rw [List.drop_length]
  rfl
def bidOk (p : Bid) : Bool := inR p.cls 0 4 && (inR p.budget 0 1000000 && inR p.points 0 24000)
theorem bidOk_iff {p : Bid} : bidOk p = true ↔ (0 ≤ p.cls ∧ p.cls ≤ 4) ∧ (0 ≤ p.budget ∧ p.budget ≤ 1000000) ∧ (0 ≤ p.points ∧ p.points ≤ 24000) := by simp [bidOk, inR]
def rosGo (l : List Bid) : List Bid → Nat → Int
  | [], _ => 0
  | p :: r, i => if nameOk p.name then (if (findB (l.take i) p.name).isSome then 7 else if bidOk p then rosGo l r (i + 1) else 4) else 5
theorem rosGo_drop {l : List Bid} {k : Nat} (hk : k < l.length) : rosGo l (l.drop k) k = if nameOk l[k].name then (if (findB (l.take k) l[k].name).isSome then 7 else if bidOk l[k] then rosGo l (l.drop (k + 1)) (k + 1) else 4) else 5 := by
  rw [List.drop_eq_getElem_cons hk, rosGo]
theorem rosGo_all {l : List Bid} : ∀ (r : List Bid) (i : Nat), rosGo l r i = 0 → ∀ p ∈ r, bidOk p = true ∧ nameOk p.name = true
  | [], _, _ => by simp
  | p :: r, i, h => by
    rw [rosGo] at h
    split at h
    · rename_i hn
      split at h
      · cases h
      · split at h
        · rename_i hb
          intro q hq
          rcases List.mem_cons.1 hq with rfl | hq
          · exact ⟨hb, hn⟩
          · exact rosGo_all r (i + 1) h q hq
        · cases h
    · cases h
/-- what Check computes -/
def rosE (l : List Bid) : Int := if l.length = 0 then 1 else if 8 < l.length then 3 else rosGo l l 0
theorem rosE_mid {l : List Bid} (h0 : 0 < l.length) (h8 : l.length ≤ 8) : rosE l = rosGo l l 0 := by
  unfold rosE
  rw [if_neg (by omega), if_neg (by omega)]
theorem rosE_zero {l : List Bid} (h : rosE l = 0) : 0 < l.length ∧ l.length ≤ 8 ∧ rosGo l l 0 = 0 := by
  unfold rosE at h
  split at h
  · cases h
  · split at h
    · cases h
    · exact ⟨by omega, by omega, h⟩
/-- the first with a name: the place itself if and only if none before has it -/
theorem find_first {name : ByteArray} : ∀ (l : List Bid) (k i : Nat) (hk : k < l.length), l[k].name = name → findFromB name l i = some ((findFromB name (l.take k) i).getD (i + k))
  | p :: r, 0, i, hk, h => by
    rw [show findFromB name (p :: r) i = if eqB p.name name then some i else findFromB name r (i + 1) from rfl, if_pos (eqB_iff.2 (show p.name = name from h))]
    simp [findFromB]
  | p :: r, k + 1, i, hk, h => by
    rw [List.take_succ_cons, show findFromB name (p :: r) i = if eqB p.name name then some i else findFromB name r (i + 1) from rfl, show findFromB name (p :: r.take k) i = if eqB p.name name then some i else findFromB name (r.take k) (i + 1) from rfl]
    split
    · rfl
    · have := find_first r k (i + 1) (by simpa using hk) (by simpa using h)
      rw [this]
      congr 2
      omega
theorem find_at {l : List Bid} {k : Nat} (hk : k < l.length) : findB l l[k].name = some ((findB (l.take k) l[k].name).getD k) := by
  have := find_first l k 0 hk rfl
  rw [Nat.zero_add] at this
  exact this
theorem find_take_lt {l : List Bid} {k j : Nat} {name : ByteArray} (h : findB (l.take k) name = some j) : j < k := by
  have := (findFromB_lt h).2
  simp at this
  omega
end Go.Proofs.YthehchdonmmpaaaGreatDoor.Ros
