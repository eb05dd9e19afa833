/- Plain: products, bundles, and what the catalog computes. Contracts of Find of both. Arrays of six numbers in memory; contracts of Supply of both. -/
import Derived.Test.YtaikmgnpfbnjjaaGreatDoorPu04
import Derived.ChangeKeysEq
import Derived.Deep.DeepCutAuto
import Derived.Deep.RegionWith
import Derived.Deep.RegionHeld3
namespace Go.Proofs.YtaikmgnpfbnjjaaGreatDoor
open Go.ChangeShapes Go.WideShapes Go.ChangeAt Go.RowKit
set_option linter.unusedVariables false
set_option linter.unusedSimpArgs false
namespace Cat
open Lex
structure Prod where
  name : ByteArray
  supply : Int
  reserve : Int
  points : Int
  group : Int
def Prod.none : Prod := ⟨⟨#[]⟩, 0, 0, 0, 0⟩
abbrev Prod.cells (p : Prod) : List Value := [.string p.name, .int .i64 p.supply, .int .i64 p.reserve, .int .i64 p.points, .int .i64 p.group]
def prodCells (l : List Prod) : List Value := l.flatMap Prod.cells
theorem prodCells_at (l : List Prod) (i : Nat) (hi : i < l.length) : (prodCells l)[i * 5]? = some (.string l[i].name) ∧ (prodCells l)[i * 5 + 1]? = some (.int .i64 l[i].supply) ∧ (prodCells l)[i * 5 + 2]? = some (.int .i64 l[i].reserve) ∧ (prodCells l)[i * 5 + 3]? = some (.int .i64 l[i].points) ∧ (prodCells l)[i * 5 + 4]? = some (.int .i64 l[i].group) := by
  induction l generalizing i with
  | nil => simp at hi
  | cons t l ih =>
    cases i with
    | zero => simp [prodCells]
    | succ i =>
      have h := ih i (by simpa using hi)
      have e : ∀ j, (prodCells (t :: l))[(i + 1) * 5 + j]? = (prodCells l)[i * 5 + j]? := by
        intro j
        rw [show (i + 1) * 5 + j = 5 + (i * 5 + j) by omega]
        show (t.cells ++ prodCells l)[5 + (i * 5 + j)]? = _
        rw [List.getElem?_append_right (by simp)]
        simp
      have e0 := e 0
      simp only [Nat.add_zero] at e0
      rw [e0, e 1, e 2, e 3, e 4]
      exact h
/-- a row of products in memory -/
def ProdRow (w : World) (b o : Nat) (l : List Prod) : Prop := ∀ j u, (prodCells l)[j]? = some u → w.cell? ⟨b, o + j, none⟩ = some u
theorem ProdRow.at_ {w : World} {b o : Nat} {l : List Prod} (h : ProdRow w b o l) (k : Nat) (hk : k < l.length) :
    w.cell? ⟨b, o + k * 5, none⟩ = some (.string l[k].name) ∧ w.cell? ⟨b, o + k * 5 + 1, none⟩ = some (.int .i64 l[k].supply) ∧ w.cell? ⟨b, o + k * 5 + 2, none⟩ = some (.int .i64 l[k].reserve) ∧ w.cell? ⟨b, o + k * 5 + 3, none⟩ = some (.int .i64 l[k].points) ∧ w.cell? ⟨b, o + k * 5 + 4, none⟩ = some (.int .i64 l[k].group) := by
  obtain ⟨e0, e1, e2, e3, e4⟩ := prodCells_at l k hk
  exact ⟨h _ _ e0, h _ _ e1, h _ _ e2, h _ _ e3, h _ _ e4⟩
theorem ProdRow.take {w : World} {b o : Nat} {l : List Prod} (h : ProdRow w b o l) (k : Nat) : ProdRow w b o (l.take k) := by
  intro j u hu
  refine h j u ?_
  have e : prodCells l = prodCells (l.take k) ++ prodCells (l.drop k) := by
    unfold prodCells
    rw [← List.flatMap_append, List.take_append_drop]
  rw [e, List.getElem?_append_left]
  · exact hu
  · exact (List.getElem?_eq_some_iff.1 hu).1
/-- equality of two texts -/
def eqB (a b : ByteArray) : Bool := a.toList == b.toList
theorem eqB_iff {a b : ByteArray} : eqB a b = true ↔ a = b := by
  unfold eqB
  constructor
  · intro h
    by_cases e : a = b
    · exact e
    · rw [toList_of_ne e] at h
      cases h
  · rintro rfl
    exact beq_self_eq_true _
/-- the place of the first product with a name, from a place on -/
def findFrom (name : ByteArray) : List Prod → Nat → Option Nat
  | [], _ => .none
  | p :: l, i => if eqB p.name name then some i else findFrom name l (i + 1)
def findP (l : List Prod) (name : ByteArray) : Option Nat := findFrom name l 0
theorem findFrom_lt {name : ByteArray} : ∀ {l : List Prod} {i k : Nat}, findFrom name l i = some k → i ≤ k ∧ k < i + l.length
  | [], i, k, h => by cases h
  | p :: l, i, k, h => by
    unfold findFrom at h
    split at h
    · injection h with h; subst h; simp
    · have := findFrom_lt h
      simp
      omega
theorem findFrom_drop {name : ByteArray} {l : List Prod} {k : Nat} (h : k < l.length) (j : Nat) : findFrom name (l.drop k) j = if eqB l[k].name name then some j else findFrom name (l.drop (k + 1)) (j + 1) := by
  rw [List.drop_eq_getElem_cons h]
  rfl
theorem findFrom_end {name : ByteArray} {l : List Prod} (j : Nat) : findFrom name (l.drop l.length) j = none := by
  rw [List.drop_length]
  rfl
def inR (n a b : Int) : Bool := decide (a ≤ n) && decide (n ≤ b)
def rangeOk (p : Prod) : Bool := inR p.supply 1 4 && (inR p.reserve 0 1000000 && (inR p.points 0 1000 && inR p.group 0 4))
theorem rangeOk_iff {p : Prod} : rangeOk p = true ↔ (1 ≤ p.supply ∧ p.supply ≤ 4) ∧ (0 ≤ p.reserve ∧ p.reserve ≤ 1000000) ∧ (0 ≤ p.points ∧ p.points ≤ 1000) ∧ (0 ≤ p.group ∧ p.group ≤ 4) := by simp [rangeOk, inR, and_assoc]
/-- the errors of the products from place i on: 0 if there are none -/
def checkGo (l : List Prod) : List Prod → Nat → Int
  | [], _ => 0
  | p :: r, i => if nameOk p.name then (if (findP (l.take i) p.name).isSome then 7 else if rangeOk p then checkGo l r (i + 1) else 4) else 5
theorem checkGo_drop {l : List Prod} {k : Nat} (hk : k < l.length) : checkGo l (l.drop k) k = if nameOk l[k].name then (if (findP (l.take k) l[k].name).isSome then 7 else if rangeOk l[k] then checkGo l (l.drop (k + 1)) (k + 1) else 4) else 5 := by
  rw [List.drop_eq_getElem_cons hk]
  rfl
/-- all products' ranges are right where the check finds nothing wrong -/
theorem checkGo_range {l : List Prod} : ∀ (r : List Prod) (i : Nat), checkGo l r i = 0 → ∀ p ∈ r, rangeOk p = true ∧ nameOk p.name = true
  | [], _, _, p, hp => by cases hp
  | q :: r, i, h, p, hp => by
    unfold checkGo at h
    split at h
    · rename_i hn
      split at h
      · cases h
      · split at h
        · rename_i hr
          rcases List.mem_cons.1 hp with e | e
          · subst e; exact ⟨hr, hn⟩
          · exact checkGo_range r (i + 1) h p e
        · cases h
    · cases h
/-- a bundle's cells -/
@[reducible] def arr (p : Nat → Int) : Array Value := #[.int .i64 (p 0), .int .i64 (p 1), .int .i64 (p 2), .int .i64 (p 3), .int .i64 (p 4), .int .i64 (p 5)]
def upd (p : Nat → Int) (k : Nat) (v : Int) : Nat → Int := fun i => if i = k then v else p i
theorem arr_set (p : Nat → Int) (k : Nat) (hk : k < 6) (v : Int) : (arr p).setIfInBounds k (.int .i64 v) = arr (upd p k v) := by
  obtain rfl | rfl | rfl | rfl | rfl | rfl : k = 0 ∨ k = 1 ∨ k = 2 ∨ k = 3 ∨ k = 4 ∨ k = 5 := by omega
  all_goals rfl
def zero6 : Nat → Int := fun _ => 0
def validB (p : Nat → Int) : Bool := (List.range 6).all fun i => decide (0 ≤ p i ∧ p i ≤ 4)
theorem validB_iff {p : Nat → Int} : validB p = true ↔ ∀ i, i < 6 → 0 ≤ p i ∧ p i ≤ 4 := by
  unfold validB
  rw [List.all_eq_true]
  constructor
  · intro h i hi
    simpa using h i (List.mem_range.2 hi)
  · intro h i hi
    simpa using h i (List.mem_range.1 hi)
end Cat
end Go.Proofs.YtaikmgnpfbnjjaaGreatDoor
namespace Go.Proofs.YtaikmgnpfbnjjaaGreatDoor
open Go.ChangeShapes Go.WideShapes Go.ChangeAt Go.RowKit
set_option linter.unusedVariables false
set_option linter.unusedSimpArgs false
namespace Cat
open Lex
def findI (l : List Prod) (name : ByteArray) : Int := (((findP l name).getD 0 : Nat) : Int)
def findOk (l : List Prod) (name : ByteArray) : Bool := (findP l name).isSome
abbrev FindPost (l : List Prod) (name : ByteArray) (w : World) : Ending → World → Prop := fun e w' => e = .returned (.tuple #[.int .i64 (findI l name), .bool (findOk l name)]) ∧ Below w.heap.size w w'
theorem find_empty (A : Option Addr) (c : Nat) (name : ByteArray) (w : World) : Calls Tryz.prog 97 #[.slice A 0 c, .string name] w (FindPost [] name w) := by
  go_enter Tryz.func97, Tryz.ntmps97
  go_wp2_with fail
  refine wp_loop_rounds 1 ?_
  rw [rounds_succ]
  go_wp2_with fail
  go_ret2
  exact ⟨rfl, Below.refl _ _⟩
theorem rfind_empty (A : Option Addr) (c : Nat) (name : ByteArray) (w : World) : Calls Tryz.prog 119 #[.slice A 0 c, .string name] w (FindPost [] name w) := by
  go_enter Tryz.func119, Tryz.ntmps119
  go_wp2_with fail
  refine wp_loop_rounds 1 ?_
  rw [rounds_succ]
  go_wp2_with fail
  go_ret2
  exact ⟨rfl, Below.refl _ _⟩
theorem find_some (l : List Prod) (b1 o1 c1 : Nat) (name : ByteArray) (w : World) (hl : l.length ≤ 5000) (h1 : ProdRow w b1 o1 l) (h0 : 0 < l.length) :
    Calls Tryz.prog 97 #[.slice (some ⟨b1, o1, none⟩) l.length c1, .string name] w (FindPost l name w) := by
  have hb1 : b1 < w.heap.size := block_lt_of_cell (h1.at_ 0 h0).1
  have HR := Lib.hid h1
  clear h1 h0
  go_enter Tryz.func97, Tryz.ntmps97
  go_wp2_with fail
  go_loopw [10] (fun i wr => ∃ k : Nat, k ≤ l.length ∧ i = .int .i64 (k : Int) ∧ Hid (findFrom name (l.drop k) k = findP l name) ∧ Hid (Below w.heap.size w wr)) (fun i _ => l.length - (intOf i).toNat)
  case atStart => exact ⟨0, by omega, rfl, rfl, Below.refl _ _⟩
  case round =>
    obtain ⟨k, hk, rfl, HX, HB0⟩ := hrel
    by_cases hlt : k < l.length
    · have hd : decide ((k : Int) < (l.length : Int)) = true := by simp; omega
      have hi0 : (0 : Int) ≤ (k : Int) := by omega
      have et := HR.out.at_ k hlt
      simp only [← HB0.out.cell (p := ⟨b1, _, none⟩) hb1] at et
      have hbr : b1 < wr.heap.size := by have := HB0.out.size; omega
      have hst := findFrom_drop (name := name) hlt k
      cases he : eqB l[k].name name with
      | true =>
        rw [he, if_pos rfl] at hst
        have HF : Hid (findP l name = some k) := HX.out.symm.trans hst
        have he2 : (l[k].name.toList == name.toList) = true := he
        clear hst he
        generalize l[k] = p at *
        go_wp2_with fail
        go_ret2
        exact ⟨by unfold findI findOk; rw [HF.out]; rfl, HB0.out.alloc HB0.out.size _⟩
      | false =>
        rw [he, if_neg (by simp)] at hst
        have HF : Hid (findFrom name (l.drop (k + 1)) (k + 1) = findP l name) := hst.symm.trans HX.out
        have he2 : (l[k].name.toList == name.toList) = false := he
        clear hst he
        generalize l[k] = p at *
        go_wp2_with fail
        go_roundw
        case rel => exact ⟨k + 1, by omega, by go_num, HF, HB0.out.alloc HB0.out.size _⟩
        case measure => simp [intOf]; omega
    · obtain rfl : k = l.length := by omega
      have hd : decide ((l.length : Int) < (l.length : Int)) = false := by simp
      have HF : Hid (findP l name = none) := HX.out.symm.trans (findFrom_end _)
      go_wp2_with fail
      go_ret2
      exact ⟨by unfold findI findOk; rw [HF.out]; rfl, HB0.out⟩
theorem rfind_some (l : List Prod) (b1 o1 c1 : Nat) (name : ByteArray) (w : World) (hl : l.length ≤ 5000) (h1 : ProdRow w b1 o1 l) (h0 : 0 < l.length) :
    Calls Tryz.prog 119 #[.slice (some ⟨b1, o1, none⟩) l.length c1, .string name] w (FindPost l name w) := by
  have hb1 : b1 < w.heap.size := block_lt_of_cell (h1.at_ 0 h0).1
  have HR := Lib.hid h1
  clear h1 h0
  go_enter Tryz.func119, Tryz.ntmps119
  go_wp2_with fail
  go_loopw [6] (fun i wr => ∃ k : Nat, k ≤ l.length ∧ i = .int .i64 (k : Int) ∧ Hid (findFrom name (l.drop k) k = findP l name) ∧ Hid (Below w.heap.size w wr)) (fun i _ => l.length - (intOf i).toNat)
  case atStart => exact ⟨0, by omega, rfl, rfl, Below.refl _ _⟩
  case round =>
    obtain ⟨k, hk, rfl, HX, HB0⟩ := hrel
    by_cases hlt : k < l.length
    · have hd : decide ((k : Int) < (l.length : Int)) = true := by simp; omega
      have hi0 : (0 : Int) ≤ (k : Int) := by omega
      have et := HR.out.at_ k hlt
      simp only [← HB0.out.cell (p := ⟨b1, _, none⟩) hb1] at et
      have hbr : b1 < wr.heap.size := by have := HB0.out.size; omega
      have hst := findFrom_drop (name := name) hlt k
      cases he : eqB l[k].name name with
      | true =>
        rw [he, if_pos rfl] at hst
        have HF : Hid (findP l name = some k) := HX.out.symm.trans hst
        have he2 : (l[k].name.toList == name.toList) = true := he
        clear hst he
        generalize l[k] = p at *
        go_wp2_with fail
        go_ret2
        exact ⟨by unfold findI findOk; rw [HF.out]; rfl, HB0.out⟩
      | false =>
        rw [he, if_neg (by simp)] at hst
        have HF : Hid (findFrom name (l.drop (k + 1)) (k + 1) = findP l name) := hst.symm.trans HX.out
        have he2 : (l[k].name.toList == name.toList) = false := he
        clear hst he
        generalize l[k] = p at *
        go_wp2_with fail
        go_roundw
        case rel => exact ⟨k + 1, by omega, by go_num, HF, HB0.out⟩
        case measure => simp [intOf]; omega
    · obtain rfl : k = l.length := by omega
      have hd : decide ((l.length : Int) < (l.length : Int)) = false := by simp
      have HF : Hid (findP l name = none) := HX.out.symm.trans (findFrom_end _)
      go_wp2_with fail
      go_ret2
      exact ⟨by unfold findI findOk; rw [HF.out]; rfl, HB0.out⟩
/-- a list of products in memory -/
abbrev PS (w : World) (v : Value) (l : List Prod) : Prop := Sl w 5 v l.length (prodCells l)
theorem ps_cases {w : World} {v : Value} {l : List Prod} (h : PS w v l) : ∃ A c, v = .slice A l.length c ∧ l.length ≤ c ∧ c ≤ maxLen ∧ (0 < l.length → ∃ b o, A = some ⟨b, o, none⟩ ∧ b < w.heap.size ∧ ProdRow w b o l) := by
  obtain ⟨_, A, c, h1, h2, h3, h4⟩ := h
  exact ⟨A, c, h1, h2, h3, h4⟩
theorem find_any (l : List Prod) (v : Value) (name : ByteArray) (w : World) (hl : l.length ≤ 5000) (h : PS w v l) : Calls Tryz.prog 97 #[v, .string name] w (FindPost l name w) := by
  obtain ⟨A, c, rfl, _, _, ha⟩ := ps_cases h
  cases l with
  | nil => exact find_empty A c name w
  | cons p l =>
    obtain ⟨b, o, rfl, _, r⟩ := ha (by simp)
    exact find_some _ b o c name w hl r (by simp)
theorem rfind_any (l : List Prod) (v : Value) (name : ByteArray) (w : World) (hl : l.length ≤ 5000) (h : PS w v l) : Calls Tryz.prog 119 #[v, .string name] w (FindPost l name w) := by
  obtain ⟨A, c, rfl, _, _, ha⟩ := ps_cases h
  cases l with
  | nil => exact rfind_empty A c name w
  | cons p l =>
    obtain ⟨b, o, rfl, _, r⟩ := ha (by simp)
    exact rfind_some _ b o c name w hl r (by simp)
end Cat
end Go.Proofs.YtaikmgnpfbnjjaaGreatDoor
namespace Go.Proofs.YtaikmgnpfbnjjaaGreatDoor
open Go.ChangeShapes Go.WideShapes Go.ChangeAt Go.RowKit
set_option linter.unusedVariables false
set_option linter.unusedSimpArgs false
namespace Cat
open Lex
def eq6 (a b : Nat → Int) : Bool := a 0 == b 0 && (a 1 == b 1 && (a 2 == b 2 && (a 3 == b 3 && (a 4 == b 4 && (a 5 == b 5)))))
theorem eq6_iff (a b : Nat → Int) : eq6 a b = true ↔ ∀ k, k < 6 → a k = b k := by
  simp only [eq6, Bool.and_eq_true, beq_iff_eq]
  constructor
  · rintro ⟨h0, h1, h2, h3, h4, h5⟩ k hk
    obtain rfl | rfl | rfl | rfl | rfl | rfl : k = 0 ∨ k = 1 ∨ k = 2 ∨ k = 3 ∨ k = 4 ∨ k = 5 := by omega
    all_goals assumption
  · intro h
    exact ⟨h 0 (by omega), h 1 (by omega), h 2 (by omega), h 3 (by omega), h 4 (by omega), h 5 (by omega)⟩
section
variable {P : Program} {E : TypeId} {d : Nat}
theorem item_step (hE : P.underlying E = some (.int .i64)) (hp : P.plainKey E = true) (xs ys : Array Value) (j : Nat) (is : List Nat) (a b : Int) (ha : xs[j]? = some (.int .i64 a)) (hb : ys[j]? = some (.int .i64 b)) (r : Bool) (w : World)
    (hr : (Op.eqItems (d + 1) E 1 xs ys is).run P w = .ok r w) : (Op.eqItems (d + 1) E 1 xs ys (j :: is)).run P w = .ok (a == b && r) w := by
  have e1 := run_part_plain (w := w) hp (off := j) ha
  have e2 := run_part_plain (w := w) hp (off := j) hb
  have e3 : (Op.equalIn (d + 1) E (.int .i64 a) (.int .i64 b)).run P w = .ok (a == b) w := by simp [Op.equalIn, run_underlying hE]
  simp only [Op.eqItems, Nat.mul_one, Sem.run_bind, e1, e2, e3, Result.andThen_ok]
  cases h : (a == b)
  · simp
  · simp [hr]
end
/-- block b holds the six numbers p -/
structure Box (w : World) (b : Nat) (p : Nat → Int) : Prop where
  blk : ∃ T, w.heap[b]? = some (.cells (arr p) T (0, 0))

theorem Box.cell {w : World} {b : Nat} {p : Nat → Int} (h : Box w b p) (k : Nat) (hk : k < 6) : w.cell? ⟨b, k, none⟩ = some (.int .i64 (p k)) := by
  obtain ⟨T, h⟩ := h.blk
  rw [cell_of_row w b k _ T _ h]
  obtain rfl | rfl | rfl | rfl | rfl | rfl : k = 0 ∨ k = 1 ∨ k = 2 ∨ k = 3 ∨ k = 4 ∨ k = 5 := by omega
  all_goals rfl
theorem Box.free {w : World} {b : Nat} {p : Nat → Int} (h : Box w b p) (k : Nat) : w.frozen? ⟨b, k, none⟩ = false := by
  obtain ⟨T, h⟩ := h.blk
  exact frozen_of_row w b k _ T h
theorem Box.lt {w : World} {b : Nat} {p : Nat → Int} (h : Box w b p) : b < w.heap.size := by
  have := block_lt_of_cell (h.cell 0 (by omega))
  exact this
theorem Box.below {B : Nat} {w w1 : World} {b : Nat} {p : Nat → Int} (h : Box w b p) (hb : Below B w w1) (hB : b < B) : Box w1 b p := by
  obtain ⟨T, h⟩ := h.blk
  exact ⟨T, by rw [hb.block b hB]; exact h⟩
theorem Box.other {w : World} {b c k : Nat} {p : Nat → Int} (h : Box w b p) (hn : b ≠ c) (v : Value) : Box (w.setCell ⟨c, k, none⟩ v) b p := by
  obtain ⟨T, h⟩ := h.blk
  exact ⟨T, by rw [heap_setCell_other _ _ _ _ hn]; exact h⟩
theorem Box.set {w : World} {b : Nat} {p : Nat → Int} (h : Box w b p) (k : Nat) (hk : k < 6) (x : Int) : Box (w.setCell ⟨b, k, none⟩ (.int .i64 x)) b (fun j => if j = k then x else p j) := by
  obtain ⟨T, h⟩ := h.blk
  refine ⟨T, ?_⟩
  rw [heap_setCell_same w b k _ T _ h]
  obtain rfl | rfl | rfl | rfl | rfl | rfl : k = 0 ∨ k = 1 ∨ k = 2 ∨ k = 3 ∨ k = 4 ∨ k = 5 := by omega
  all_goals simp [arr]
theorem Box.congr {w : World} {b : Nat} {p q : Nat → Int} (h : Box w b p) (he : ∀ k, k < 6 → p k = q k) : Box w b q := by
  obtain ⟨T, h⟩ := h.blk
  refine ⟨T, ?_⟩
  rw [h]
  simp [arr, he]
theorem Box.cells {w : World} {b : Nat} {p : Nat → Int} (h : Box w b p) : w.cell? ⟨b, 0, none⟩ = some (.int .i64 (p 0)) ∧ w.cell? ⟨b, 1, none⟩ = some (.int .i64 (p 1)) ∧ w.cell? ⟨b, 2, none⟩ = some (.int .i64 (p 2)) ∧ w.cell? ⟨b, 3, none⟩ = some (.int .i64 (p 3)) ∧ w.cell? ⟨b, 4, none⟩ = some (.int .i64 (p 4)) ∧ w.cell? ⟨b, 5, none⟩ = some (.int .i64 (p 5)) :=
  ⟨h.cell 0 (by omega), h.cell 1 (by omega), h.cell 2 (by omega), h.cell 3 (by omega), h.cell 4 (by omega), h.cell 5 (by omega)⟩
theorem idx27 (p : Nat → Int) (k : Nat) (hk : k < 6) (w : World) :
    (Instr.index 23 (.agg (arr p)) (.int .i64 (k : Int))).run Tryz.prog w = .ok (.int .i64 (p k)) w := by
  obtain rfl | rfl | rfl | rfl | rfl | rfl : k = 0 ∨ k = 1 ∨ k = 2 ∨ k = 3 ∨ k = 4 ∨ k = 5 := by omega
  all_goals kernel_rfl

theorem box_new (w : World) (p : Nat → Int) (T : TypeId) : Box (w.alloc (.cells (arr p) T)) w.heap.size p := ⟨T, by show (w.heap.push _)[w.heap.size]? = _; simp⟩
theorem Box.alloc {w : World} {b : Nat} {p : Nat → Int} (h : Box w b p) (o : Obj) : Box (w.alloc o) b p := by
  obtain ⟨T, h'⟩ := h.blk
  exact ⟨T, by rw [Below.heap_alloc _ _ _ h.lt]; exact h'⟩
theorem Box.drew {w : World} {b : Nat} {p : Nat → Int} (h : Box w b p) : Box w.drew b p := ⟨h.blk⟩
/-- the result's block is filled and read -/
theorem res_end {w : World} {b : Nat} {p : Nat → Int} (h : Box w b p) (q : Nat → Int) :
    Box ((((((w.setCell ⟨b, 0, none⟩ (.int .i64 (q 0))).setCell ⟨b, 1, none⟩ (.int .i64 (q 1))).setCell ⟨b, 2, none⟩ (.int .i64 (q 2))).setCell ⟨b, 3, none⟩ (.int .i64 (q 3))).setCell ⟨b, 4, none⟩ (.int .i64 (q 4))).setCell ⟨b, 5, none⟩ (.int .i64 (q 5))) b q :=
  ((((((h.set 0 (by omega) (q 0)).set 1 (by omega) (q 1)).set 2 (by omega) (q 2)).set 3 (by omega) (q 3)).set 4 (by omega) (q 4)).set 5 (by omega) (q 5)).congr (by
    intro k hk
    obtain rfl | rfl | rfl | rfl | rfl | rfl : k = 0 ∨ k = 1 ∨ k = 2 ∨ k = 3 ∨ k = 4 ∨ k = 5 := by omega
    all_goals rfl)

def startP (n : Nat) (re : Nat → Int) : Nat → Int := fun k => if k < n then re k else 0

structure SMid (w wx : World) (q : Nat → Int) : Prop where
  res : Box wx w.heap.size (fun _ => 0)
  out : Box wx (w.heap.size + 1) q
  bel : Below w.heap.size w wx
theorem smid_new (w : World) (T1 T2 : TypeId) (q : Nat → Int) (hq : ∀ k, k < 6 → (0 : Int) = q k) : SMid w ((w.alloc (.cells (arr fun _ => 0) T1)).alloc (.cells (arr fun _ => 0) T2)) q := by
  refine ⟨(box_new w _ T1).alloc _, ?_, ((Below.refl _ _).alloc (by go_size) _).alloc (by go_size) _⟩
  have := (box_new (w.alloc (.cells (arr fun _ => 0) T1)) (fun _ => 0) T2).congr hq
  simpa only [World.size_alloc] using this
theorem SMid.alloc {w wx : World} {q : Nat → Int} (h : SMid w wx q) (o : Obj) : SMid w (wx.alloc o) q :=
  ⟨h.res.alloc o, h.out.alloc o, h.bel.alloc h.bel.size _⟩
theorem SMid.put {w wx : World} {q : Nat → Int} (h : SMid w wx q) (k : Nat) (hk : k < 6) (v : Int) : SMid w (wx.setCell ⟨w.heap.size + 1, k, none⟩ (.int .i64 v)) (fun j => if j = k then v else q j) :=
  ⟨h.res.other (by omega) _, h.out.set k hk v, h.bel.setCell (p := ⟨w.heap.size + 1, k, none⟩) (by show w.heap.size ≤ w.heap.size + 1; omega) _⟩
theorem SMid.same {w wx : World} {q q' : Nat → Int} (h : SMid w wx q) (he : ∀ k, k < 6 → q k = q' k) : SMid w wx q' := ⟨h.res, h.out.congr he, h.bel⟩
theorem SMid.drew {w wx : World} {q : Nat → Int} (h : SMid w wx q) : SMid w wx.drew q := ⟨h.res.drew, h.out.drew, h.bel.drew⟩
theorem start_step (k : Nat) (re : Nat → Int) (j : Nat) : (if j = k then re k else startP k re j) = startP (k + 1) re j := by
  unfold startP
  by_cases e : j = k
  · subst e; simp
  · by_cases l : j < k
    · simp [e, l, Nat.lt_succ_of_lt l]
    · simp [e, l, show ¬ j < k + 1 by omega]

theorem start_sat (k : Nat) (re : Nat → Int) (h : 6 ≤ k) (j : Nat) (hj : j < 6) : startP k re j = startP (k + 1) re j := by
  unfold startP
  rw [if_pos (by omega), if_pos (by omega)]
def supI (l : List Prod) : Nat → Int := fun i => (l.getD i Prod.none).supply
def supP (l : List Prod) : Nat → Int := startP l.length (supI l)
theorem getD_prod (l : List Prod) (k : Nat) (h : k < l.length) : l.getD k Prod.none = l[k] := by simp [List.getD, h]
theorem supI_at (l : List Prod) (k : Nat) (h : k < l.length) : supI l k = l[k].supply := by unfold supI; rw [getD_prod l k h]
set_option maxHeartbeats 400000 in
theorem supply_some (l : List Prod) (b1 o1 c1 : Nat) (w : World) (hl : l.length ≤ 5000) (h1 : ProdRow w b1 o1 l) (h0 : 0 < l.length) :
    Calls Tryz.prog 100 #[.slice (some ⟨b1, o1, none⟩) l.length c1] w
      fun e w' => e = .returned (.agg (arr (supP l))) ∧ Below w.heap.size w w' := by
  have hb1 : b1 < w.heap.size := block_lt_of_cell (h1.at_ 0 h0).1
  have HR := Lib.hid h1
  clear h1 h0
  have R0 := Lib.hid (smid_new w 23 23 (startP 0 (supI l)) (by intro k _; simp [startP]))
  have HS := Lib.hid (start_step (re := supI l))
  have HE : Hid (supP l = startP l.length (supI l)) := rfl
  generalize supP l = res at *
  go_enter Tryz.func100, Tryz.ntmps100
  go_wp2_with fail
  go_loopw [8] (fun i wr => ∃ k : Nat, k ≤ l.length ∧ i = .int .i64 (k : Int) ∧ SMid w wr (startP k (supI l))) (fun i _ => l.length - (intOf i).toNat)
  case atStart => exact ⟨0, by omega, rfl, R0.out⟩
  case round =>
    obtain ⟨k, hk, rfl, R⟩ := hrel
    clear R0
    by_cases hlt : k < l.length
    · have hd : decide ((k : Int) < (l.length : Int)) = true := by simp; omega
      have hi0 : (0 : Int) ≤ (k : Int) := by omega
      have et := HR.out.at_ k hlt
      simp only [← R.bel.cell (p := ⟨b1, _, none⟩) hb1] at et
      have hbr : b1 < wr.heap.size := by have := R.bel.size; omega
      have HQ := Lib.hid (supI_at l k hlt)
      generalize l[k] = p at *
      by_cases h6 : k < 6
      · have hd6 : decide ((k : Int) < 6) = true := by simp; omega
        have pk := R.out.cell k h6
        have pf := R.out.free k
        have zp := R.out.lt
        have n1 : ¬ w.heap.size + 1 = wr.heap.size := by omega
        have n2 : ¬ b1 = wr.heap.size := by omega
        go_wp2_with fail
        all_goals
          go_roundw
          case rel => exact ⟨k + 1, by omega, by go_num, ((R.put k h6 _).alloc _).same fun j _ => by rw [← HQ.out]; exact HS.out k j⟩
          case measure => simp [intOf]; omega
      · have hd6 : decide ((k : Int) < 6) = false := by simp; omega
        go_wp2_with fail
        go_roundw
        case rel => exact ⟨k + 1, by omega, by go_num, (R.alloc _).same fun j hj => start_sat k _ (by omega) j hj⟩
        case measure => simp [intOf]; omega
    · obtain rfl : k = l.length := by omega
      have hd : decide ((l.length : Int) < (l.length : Int)) = false := by simp
      rw [← HE.out] at R
      have Rf := R.res.free
      obtain ⟨Z0, Z1, Z2, Z3, Z4, Z5⟩ := R.res.cells
      obtain ⟨Q0, Q1, Q2, Q3, Q4, Q5⟩ := R.out.cells
      go_wp2_with fail
      have RE := res_end R.res res
      obtain ⟨E0, E1, E2, E3, E4, E5⟩ := RE.cells
      refine bodyPost_ret (v := .agg (arr res)) (by simp [results, Tryz.results100, go_sem, arr, E0, E1, E2, E3, E4, E5]) rfl ⟨rfl, ?_⟩
      have := R.bel
      go_grown
end Cat
end Go.Proofs.YtaikmgnpfbnjjaaGreatDoor
