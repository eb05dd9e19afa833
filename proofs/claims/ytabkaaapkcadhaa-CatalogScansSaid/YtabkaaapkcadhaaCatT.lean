/- Plain: products, bundles, and what the catalog computes. -/
import Derived.Test.YtabkaaapkcadhaaLexN
namespace Go.Proofs.Ytabkaaapkcadhaa
open Go.ChangeShapes Go.WideShapes Go.ChangeAt Go.RowKit
set_option linter.unusedVariables false
set_option linter.unusedSimpArgs false
namespace Cat
open Lex
structure Prod where
  name : ByteArray
  supply : Int
  reserve : Int
  points : Int
  group : Int
def Prod.none : Prod := ⟨⟨#[]⟩, 0, 0, 0, 0⟩
abbrev Prod.cells (p : Prod) : List Value := [.string p.name, .int .i64 p.supply, .int .i64 p.reserve, .int .i64 p.points, .int .i64 p.group]
def prodCells (l : List Prod) : List Value := l.flatMap Prod.cells
theorem prodCells_len (l : List Prod) : (prodCells l).length = l.length * 5 := by
  unfold prodCells
  induction l with
  | nil => rfl
  | cons t l ih =>
    rw [List.flatMap_cons, List.length_append, ih]
    show 5 + _ = _
    rw [List.length_cons]
    omega
theorem prodCells_at (l : List Prod) (i : Nat) (hi : i < l.length) : (prodCells l)[i * 5]? = some (.string l[i].name) ∧ (prodCells l)[i * 5 + 1]? = some (.int .i64 l[i].supply) ∧ (prodCells l)[i * 5 + 2]? = some (.int .i64 l[i].reserve) ∧ (prodCells l)[i * 5 + 3]? = some (.int .i64 l[i].points) ∧ (prodCells l)[i * 5 + 4]? = some (.int .i64 l[i].group) := by
  induction l generalizing i with
  | nil => simp at hi
  | cons t l ih =>
    cases i with
    | zero => simp [prodCells]
    | succ i =>
      have h := ih i (by simpa using hi)
      have e : ∀ j, (prodCells (t :: l))[(i + 1) * 5 + j]? = (prodCells l)[i * 5 + j]? := by
        intro j
        rw [show (i + 1) * 5 + j = 5 + (i * 5 + j) by omega]
        show (t.cells ++ prodCells l)[5 + (i * 5 + j)]? = _
        rw [List.getElem?_append_right (by simp)]
        simp
      have e0 := e 0
      simp only [Nat.add_zero] at e0
      rw [e0, e 1, e 2, e 3, e 4]
      exact h
/-- a row of products in memory -/
def ProdRow (w : World) (b o : Nat) (l : List Prod) : Prop := ∀ j u, (prodCells l)[j]? = some u → w.cell? ⟨b, o + j, none⟩ = some u
theorem ProdRow.at_ {w : World} {b o : Nat} {l : List Prod} (h : ProdRow w b o l) (k : Nat) (hk : k < l.length) :
    w.cell? ⟨b, o + k * 5, none⟩ = some (.string l[k].name) ∧ w.cell? ⟨b, o + k * 5 + 1, none⟩ = some (.int .i64 l[k].supply) ∧ w.cell? ⟨b, o + k * 5 + 2, none⟩ = some (.int .i64 l[k].reserve) ∧ w.cell? ⟨b, o + k * 5 + 3, none⟩ = some (.int .i64 l[k].points) ∧ w.cell? ⟨b, o + k * 5 + 4, none⟩ = some (.int .i64 l[k].group) := by
  obtain ⟨e0, e1, e2, e3, e4⟩ := prodCells_at l k hk
  exact ⟨h _ _ e0, h _ _ e1, h _ _ e2, h _ _ e3, h _ _ e4⟩
theorem ProdRow.take {w : World} {b o : Nat} {l : List Prod} (h : ProdRow w b o l) (k : Nat) : ProdRow w b o (l.take k) := by
  intro j u hu
  refine h j u ?_
  have e : prodCells l = prodCells (l.take k) ++ prodCells (l.drop k) := by
    unfold prodCells
    rw [← List.flatMap_append, List.take_append_drop]
  rw [e, List.getElem?_append_left]
  · exact hu
  · exact (List.getElem?_eq_some_iff.1 hu).1
/-- equality of two texts -/
def eqB (a b : ByteArray) : Bool := a.toList == b.toList
theorem eqB_iff {a b : ByteArray} : eqB a b = true ↔ a = b := by
  unfold eqB
  constructor
  · intro h
    by_cases e : a = b
    · exact e
    · rw [toList_of_ne e] at h
      cases h
  · rintro rfl
    exact beq_self_eq_true _
theorem eqB_ne {a b : ByteArray} (h : eqB a b = false) : a ≠ b := by
  rintro rfl
  rw [eqB_iff.2 rfl] at h
  cases h
/-- the place of the first product with a name, from a place on -/
def findFrom (name : ByteArray) : List Prod → Nat → Option Nat
  | [], _ => .none
  | p :: l, i => if eqB p.name name then some i else findFrom name l (i + 1)
def findP (l : List Prod) (name : ByteArray) : Option Nat := findFrom name l 0
theorem findFrom_lt {name : ByteArray} : ∀ {l : List Prod} {i k : Nat}, findFrom name l i = some k → i ≤ k ∧ k < i + l.length
  | [], i, k, h => by cases h
  | p :: l, i, k, h => by
    unfold findFrom at h
    split at h
    · injection h with h; subst h; simp
    · have := findFrom_lt h
      simp
      omega
theorem findFrom_drop {name : ByteArray} {l : List Prod} {k : Nat} (h : k < l.length) (j : Nat) : findFrom name (l.drop k) j = if eqB l[k].name name then some j else findFrom name (l.drop (k + 1)) (j + 1) := by
  rw [List.drop_eq_getElem_cons h]
  rfl
theorem findFrom_end {name : ByteArray} {l : List Prod} (j : Nat) : findFrom name (l.drop l.length) j = none := by
  rw [List.drop_length]
  rfl
def inR (n a b : Int) : Bool := decide (a ≤ n) && decide (n ≤ b)
def rangeOk (p : Prod) : Bool := inR p.supply 1 4 && (inR p.reserve 0 1000000 && (inR p.points 0 1000 && inR p.group 0 4))
theorem rangeOk_iff {p : Prod} : rangeOk p = true ↔ (1 ≤ p.supply ∧ p.supply ≤ 4) ∧ (0 ≤ p.reserve ∧ p.reserve ≤ 1000000) ∧ (0 ≤ p.points ∧ p.points ≤ 1000) ∧ (0 ≤ p.group ∧ p.group ≤ 4) := by simp [rangeOk, inR, and_assoc]
/-- the errors of the products from place i on: 0 if there are none -/
def checkGo (l : List Prod) : List Prod → Nat → Int
  | [], _ => 0
  | p :: r, i => if nameOk p.name then (if (findP (l.take i) p.name).isSome then 7 else if rangeOk p then checkGo l r (i + 1) else 4) else 5
theorem checkGo_drop {l : List Prod} {k : Nat} (hk : k < l.length) : checkGo l (l.drop k) k = if nameOk l[k].name then (if (findP (l.take k) l[k].name).isSome then 7 else if rangeOk l[k] then checkGo l (l.drop (k + 1)) (k + 1) else 4) else 5 := by
  rw [List.drop_eq_getElem_cons hk]
  rfl
/-- all products' ranges are right where the check finds nothing wrong -/
theorem checkGo_range {l : List Prod} : ∀ (r : List Prod) (i : Nat), checkGo l r i = 0 → ∀ p ∈ r, rangeOk p = true ∧ nameOk p.name = true
  | [], _, _, p, hp => by cases hp
  | q :: r, i, h, p, hp => by
    unfold checkGo at h
    split at h
    · rename_i hn
      split at h
      · cases h
      · split at h
        · rename_i hr
          rcases List.mem_cons.1 hp with e | e
          · subst e; exact ⟨hr, hn⟩
          · exact checkGo_range r (i + 1) h p e
        · cases h
    · cases h
/-- a bundle's cells -/
@[reducible] def arr (p : Nat → Int) : Array Value := #[.int .i64 (p 0), .int .i64 (p 1), .int .i64 (p 2), .int .i64 (p 3), .int .i64 (p 4), .int .i64 (p 5)]
def upd (p : Nat → Int) (k : Nat) (v : Int) : Nat → Int := fun i => if i = k then v else p i
theorem arr_get (p : Nat → Int) (k : Nat) (hk : k < 6) : (arr p)[k]? = some (.int .i64 (p k)) := by
  obtain rfl | rfl | rfl | rfl | rfl | rfl : k = 0 ∨ k = 1 ∨ k = 2 ∨ k = 3 ∨ k = 4 ∨ k = 5 := by omega
  all_goals rfl
theorem arr_set (p : Nat → Int) (k : Nat) (hk : k < 6) (v : Int) : (arr p).setIfInBounds k (.int .i64 v) = arr (upd p k v) := by
  obtain rfl | rfl | rfl | rfl | rfl | rfl : k = 0 ∨ k = 1 ∨ k = 2 ∨ k = 3 ∨ k = 4 ∨ k = 5 := by omega
  all_goals rfl
def zero6 : Nat → Int := fun _ => 0
def validB (p : Nat → Int) : Bool := (List.range 6).all fun i => decide (0 ≤ p i ∧ p i ≤ 4)
theorem validB_iff {p : Nat → Int} : validB p = true ↔ ∀ i, i < 6 → 0 ≤ p i ∧ p i ≤ 4 := by
  unfold validB
  rw [List.all_eq_true]
  constructor
  · intro h i hi
    simpa using h i (List.mem_range.2 hi)
  · intro h i hi
    simpa using h i (List.mem_range.1 hi)
end Cat
end Go.Proofs.Ytabkaaapkcadhaa
