/- Contracts of the scanner's methods (program). Printed by gen_lexM.py. Contracts of IsName. Plain: products, bundles, and what the catalog computes. Contracts of Find of both. -/
import Derived.Test.YtfopmaeaclbknaaDoorPk14
namespace Go.Proofs.YtfopmaeaclbknaaDoor
open Go.ChangeShapes Go.WideShapes Go.ChangeAt Go.RowKit
namespace Lex


def accB (L : List Tok) (e : Int) (m : ByteArray) : Prop := (peekT L e).kind = 3 ∧ (peekT L e).text = m
theorem toList_of_ne {a b : ByteArray} (h : a ≠ b) : (a.toList == b.toList) = false := by
  refine beq_eq_false_iff_ne.2 fun e => h ?_
  rw [ByteArray.toList_eq, ByteArray.toList_eq] at e
  obtain ⟨⟨x⟩⟩ := a
  obtain ⟨⟨y⟩⟩ := b
  dsimp only at e
  rw [e]
noncomputable def expL (L : List Tok) (e : Int) (m : ByteArray) : List Tok := @ite _ (accB L e m) (Classical.propDecidable _) (nextL L e) L
noncomputable def expE (L : List Tok) (e : Int) (m : ByteArray) : Int := @ite _ (accB L e m) (Classical.propDecidable _) e (wrongE L e)
def nameT (L : List Tok) (e : Int) : ByteArray := if (peekT L e).kind = 1 then (peekT L e).text else ⟨#[]⟩
def nameL (L : List Tok) (e : Int) : List Tok := if (peekT L e).kind = 1 then nextL L e else L
def nameE (L : List Tok) (e : Int) : Int := if (peekT L e).kind = 1 then e else wrongE L e
def amtV (L : List Tok) (e most : Int) : Int := if (peekT L e).kind = 2 ∧ 0 ≤ (peekT L e).value ∧ (peekT L e).value ≤ most then (peekT L e).value else 0
def amtL (L : List Tok) (e most : Int) : List Tok := if (peekT L e).kind = 2 ∧ 0 ≤ (peekT L e).value ∧ (peekT L e).value ≤ most then nextL L e else L
def amtE (L : List Tok) (e most : Int) : Int := if (peekT L e).kind = 2 then (if 0 ≤ (peekT L e).value ∧ (peekT L e).value ≤ most then e else failE e 4) else wrongE L e


end Lex
end Go.Proofs.YtfopmaeaclbknaaDoor
namespace Go.Proofs.YtfopmaeaclbknaaDoor
open Go.ChangeShapes Go.WideShapes Go.ChangeAt Go.RowKit
namespace Lex
/-- a word and nothing else, of 1 to 12 bytes -/
def nameOk (s : ByteArray) : Bool := decide (0 < s.size) && (decide (s.size ≤ 12) && ((s.data.toList.head?.any isLet) && decide (runLen isInn s 0 = s.size)))
theorem empty_of (s : ByteArray) (h : s.size = 0) : s = ⟨#[]⟩ := by
  obtain ⟨⟨l⟩⟩ := s
  cases l with
  | nil => rfl
  | cons a l => simp [ByteArray.size] at h
theorem bytes_ne_nil {s : ByteArray} (h : 0 < s.size) : (s.toList == ([] : List UInt8)) = false := by
  rw [ByteArray.toList_eq]
  obtain ⟨⟨l⟩⟩ := s
  cases l with
  | nil => simp [ByteArray.size] at h
  | cons a l => rfl
theorem bytes_isEmpty {s : ByteArray} (h : 0 < s.size) : s.toList.isEmpty = false := by
  rw [ByteArray.toList_eq]
  obtain ⟨⟨l⟩⟩ := s
  cases l with
  | nil => simp [ByteArray.size] at h
  | cons a l => rfl
theorem head_any (s : ByteArray) (h : 0 < s.size) : s.data.toList.head?.any isLet = isLet s[0] := by
  rw [toList_cons s h]
  rfl
theorem extract_all (s : ByteArray) : s.extract 0 s.size = s := by
  obtain ⟨⟨l⟩⟩ := s
  apply ByteArray.ext
  simp [ByteArray.size]
theorem extract_run_ne (s : ByteArray) (h : runLen isInn s 0 ≠ s.size) (hl : 0 + runLen isInn s 0 ≤ s.size) : s.extract 0 (0 + runLen isInn s 0) ≠ s := by
  intro e
  have := congrArg ByteArray.size e
  simp at this
  omega
theorem isName_any (s : ByteArray) (w : World) (hs : s.size ≤ maxLen) : Calls Tryd.prog 109 #[.string s] w fun e w' => e = .returned (.bool (nameOk s)) ∧ w = w' := by
  unfold maxLen at hs
  by_cases h0 : s.size = 0
  · obtain rfl := empty_of s h0
    have HN : Hid (nameOk ⟨#[]⟩ = false) := rfl
    generalize nameOk ⟨#[]⟩ = r at *
    go_enter Tryd.func109, Tryd.ntmps109
    go_wp2_with fail
    go_ret
    exact ⟨by rw [HN.out]; rfl, rfl⟩
  · have hp : 0 < s.size := by omega
    have hn : nameOk s = (decide (s.size ≤ 12) && (isLet s[0] && decide (runLen isInn s 0 = s.size))) := by
      unfold nameOk
      rw [decide_eq_true hp, head_any s hp, Bool.true_and]
    have HN := Lib.hid hn
    have h1 := bytes_ne_nil hp
    have h2 := bytes_isEmpty hp
    have hle := runLen_le isInn s 0 (by omega)
    have CL := Lib.hid (letter_any s[0])
    have WB := Lib.hid (wrap32_byte s[0])
    have CR := Lib.hid (fun w => run_inner s 0 w (by unfold maxLen; omega) (by omega))
    clear hn
    by_cases h12 : s.size ≤ 12
    · have d12 : decide ((s.size : Int) ≤ 12) = true := by simp; omega
      cases hl : isLet s[0] with
      | false =>
        go_enter Tryd.func109, Tryd.ntmps109
        go_wp2_with (go_at_call 136; (try rw [WB.out]); refine (CL.out _).mono ?_; rintro e w' ⟨rfl, rfl⟩; rw [hl])
        go_ret
        exact ⟨by rw [HN.out, hl]; simp, rfl⟩
      | true =>
        by_cases hr : runLen isInn s 0 = s.size
        · have HR := Lib.hid hr
          have he : (s.extract 0 (0 + runLen isInn s 0)) = s := by rw [Nat.zero_add, hr]; exact extract_all s
          rw [he] at CR
          clear hr he hle
          go_enter Tryd.func109, Tryd.ntmps109
          go_wp2_with (first | (go_at_call 136; (try rw [WB.out]); refine (CL.out _).mono ?_; rintro e w' ⟨rfl, rfl⟩; rw [hl]) | (go_at_call 137; refine (CR.out _).mono ?_; rintro e w' ⟨rfl, rfl⟩))
          go_ret
          exact ⟨by rw [HN.out, hl]; simp [HR.out, h12], rfl⟩
        · have hne := toList_of_ne (extract_run_ne s hr hle)
          have HR := Lib.hid hr
          generalize s.extract 0 (0 + runLen isInn s 0) = t at *
          clear hr hle
          go_enter Tryd.func109, Tryd.ntmps109
          go_wp2_with (first | (go_at_call 136; (try rw [WB.out]); refine (CL.out _).mono ?_; rintro e w' ⟨rfl, rfl⟩; rw [hl]) | (go_at_call 137; refine (CR.out _).mono ?_; rintro e w' ⟨rfl, rfl⟩))
          go_ret
          exact ⟨by rw [HN.out, hl]; simp [HR.out], rfl⟩
    · have d12 : decide ((s.size : Int) ≤ 12) = false := by simp; omega
      go_enter Tryd.func109, Tryd.ntmps109
      go_wp2_with fail
      go_ret
      exact ⟨by rw [HN.out]; simp [h12], rfl⟩
theorem one_name (s : ByteArray) (hp : 0 < s.size) (hl : isLet s[0] = true) : one s.data.toList = if 12 < runLen isInn s 0 then .error 3 else .ok ⟨1, runLen isInn s 0, 0⟩ := by
  have h1 : runLen isInn s 0 = span isInn (s.data.toList.drop 1) + 1 := by
    unfold runLen
    rw [drop_cons s 0 hp, span_cons (inn_of_let hl)]
  rw [h1]
  have h2 := toList_cons s hp
  generalize s.data.toList.drop 1 = l at *
  rw [h2]
  simp only [one, if_pos hl]
theorem refIsName_any (s : ByteArray) (w : World) (hs : s.size ≤ maxLen) : Calls Tryd.prog 66 #[.string s] w fun e w' => e = .returned (.bool (nameOk s)) ∧ Below w.heap.size w w' := by
  unfold maxLen at hs
  by_cases h0 : s.size = 0
  · obtain rfl := empty_of s h0
    have HN : Hid (nameOk ⟨#[]⟩ = false) := rfl
    generalize nameOk ⟨#[]⟩ = r at *
    go_enter Tryd.func66, Tryd.ntmps66
    go_wp2_with fail
    go_ret
    exact ⟨by rw [HN.out]; rfl, Below.refl _ _⟩
  · have hp : 0 < s.size := by omega
    have hn : nameOk s = (decide (s.size ≤ 12) && (isLet s[0] && decide (runLen isInn s 0 = s.size))) := by
      unfold nameOk
      rw [decide_eq_true hp, head_any s hp, Bool.true_and]
    have HN := Lib.hid hn
    have h1 := bytes_ne_nil hp
    have h2 := bytes_isEmpty hp
    have hle := runLen_le isInn s 0 (by omega)
    have CL := Lib.hid (rletter_any s[0])
    clear hn
    by_cases h12 : s.size ≤ 12
    · have d12 : decide ((12 : Int) < (s.size : Int)) = false := by simp; omega
      cases hl : isLet s[0] with
      | false =>
        go_enter Tryd.func66, Tryd.ntmps66
        go_wp2_with (go_at_call 88; refine (CL.out _).mono ?_; rintro e w' ⟨rfl, rfl⟩; rw [hl])
        go_ret
        exact ⟨by rw [HN.out, hl]; simp, Below.refl _ _⟩
      | true =>
        have ho := one_name s hp hl
        rw [if_neg (by omega)] at ho
        have CO : Hid (∀ w, Calls Tryd.prog 89 #[.string s] w fun e w' => e = .returned (.tuple #[.agg #[.int .i64 1, .string (s.extract 0 (runLen isInn s 0)), .int .i64 0, .int .i64 0], .int .i64 0]) ∧ Below w.heap.size w w') := by
          intro w
          refine (refOne_any s w (by unfold maxLen; omega) hp).mono fun e w' he => ?_
          unfold OneR at he
          rw [ho] at he
          exact he
        clear ho
        by_cases hr : runLen isInn s 0 = s.size
        · have HR := Lib.hid hr
          have he : (s.extract 0 (runLen isInn s 0)) = s := by rw [hr]; exact extract_all s
          rw [he] at CO
          clear hr he hle
          go_enter Tryd.func66, Tryd.ntmps66
          go_wp2_with (first | (go_at_call 88; refine (CL.out _).mono ?_; rintro e w' ⟨rfl, rfl⟩; rw [hl]) | (go_at_call 89; refine (CO.out _).mono ?_; rintro e w' ⟨rfl, b1⟩))
          go_ret
          exact ⟨by rw [HN.out, hl]; simp [HR.out, h12], by first | exact b1 | exact b1.alloc b1.size _⟩
        · have hne := toList_of_ne (extract_run_ne s hr hle)
          have HR := Lib.hid hr
          rw [Nat.zero_add] at hne
          generalize s.extract 0 (runLen isInn s 0) = t at *
          clear hr hle
          go_enter Tryd.func66, Tryd.ntmps66
          go_wp2_with (first | (go_at_call 88; refine (CL.out _).mono ?_; rintro e w' ⟨rfl, rfl⟩; rw [hl]) | (go_at_call 89; refine (CO.out _).mono ?_; rintro e w' ⟨rfl, b1⟩))
          go_ret
          exact ⟨by rw [HN.out, hl]; simp [HR.out], by first | exact b1 | exact b1.alloc b1.size _⟩
    · have d12 : decide ((12 : Int) < (s.size : Int)) = true := by simp; omega
      go_enter Tryd.func66, Tryd.ntmps66
      go_wp2_with fail
      go_ret
      exact ⟨by rw [HN.out]; simp [h12], Below.refl _ _⟩
end Lex
end Go.Proofs.YtfopmaeaclbknaaDoor
namespace Go.Proofs.YtfopmaeaclbknaaDoor
open Go.ChangeShapes Go.WideShapes Go.ChangeAt Go.RowKit
set_option linter.unusedVariables false
set_option linter.unusedSimpArgs false
namespace Cat
open Lex
structure Prod where
  name : ByteArray
  supply : Int
  reserve : Int
  points : Int
  group : Int
def Prod.none : Prod := ⟨⟨#[]⟩, 0, 0, 0, 0⟩
abbrev Prod.cells (p : Prod) : List Value := [.string p.name, .int .i64 p.supply, .int .i64 p.reserve, .int .i64 p.points, .int .i64 p.group]
def prodCells (l : List Prod) : List Value := l.flatMap Prod.cells
theorem prodCells_len (l : List Prod) : (prodCells l).length = l.length * 5 := by
  unfold prodCells
  induction l with
  | nil => rfl
  | cons t l ih =>
    rw [List.flatMap_cons, List.length_append, ih]
    show 5 + _ = _
    rw [List.length_cons]
    omega
theorem prodCells_at (l : List Prod) (i : Nat) (hi : i < l.length) : (prodCells l)[i * 5]? = some (.string l[i].name) ∧ (prodCells l)[i * 5 + 1]? = some (.int .i64 l[i].supply) ∧ (prodCells l)[i * 5 + 2]? = some (.int .i64 l[i].reserve) ∧ (prodCells l)[i * 5 + 3]? = some (.int .i64 l[i].points) ∧ (prodCells l)[i * 5 + 4]? = some (.int .i64 l[i].group) := by
  induction l generalizing i with
  | nil => simp at hi
  | cons t l ih =>
    cases i with
    | zero => simp [prodCells]
    | succ i =>
      have h := ih i (by simpa using hi)
      have e : ∀ j, (prodCells (t :: l))[(i + 1) * 5 + j]? = (prodCells l)[i * 5 + j]? := by
        intro j
        rw [show (i + 1) * 5 + j = 5 + (i * 5 + j) by omega]
        show (t.cells ++ prodCells l)[5 + (i * 5 + j)]? = _
        rw [List.getElem?_append_right (by simp)]
        simp
      have e0 := e 0
      simp only [Nat.add_zero] at e0
      rw [e0, e 1, e 2, e 3, e 4]
      exact h
/-- a row of products in memory -/
def ProdRow (w : World) (b o : Nat) (l : List Prod) : Prop := ∀ j u, (prodCells l)[j]? = some u → w.cell? ⟨b, o + j, none⟩ = some u
theorem ProdRow.at_ {w : World} {b o : Nat} {l : List Prod} (h : ProdRow w b o l) (k : Nat) (hk : k < l.length) :
    w.cell? ⟨b, o + k * 5, none⟩ = some (.string l[k].name) ∧ w.cell? ⟨b, o + k * 5 + 1, none⟩ = some (.int .i64 l[k].supply) ∧ w.cell? ⟨b, o + k * 5 + 2, none⟩ = some (.int .i64 l[k].reserve) ∧ w.cell? ⟨b, o + k * 5 + 3, none⟩ = some (.int .i64 l[k].points) ∧ w.cell? ⟨b, o + k * 5 + 4, none⟩ = some (.int .i64 l[k].group) := by
  obtain ⟨e0, e1, e2, e3, e4⟩ := prodCells_at l k hk
  exact ⟨h _ _ e0, h _ _ e1, h _ _ e2, h _ _ e3, h _ _ e4⟩
theorem ProdRow.take {w : World} {b o : Nat} {l : List Prod} (h : ProdRow w b o l) (k : Nat) : ProdRow w b o (l.take k) := by
  intro j u hu
  refine h j u ?_
  have e : prodCells l = prodCells (l.take k) ++ prodCells (l.drop k) := by
    unfold prodCells
    rw [← List.flatMap_append, List.take_append_drop]
  rw [e, List.getElem?_append_left]
  · exact hu
  · exact (List.getElem?_eq_some_iff.1 hu).1
/-- equality of two texts -/
def eqB (a b : ByteArray) : Bool := a.toList == b.toList
theorem eqB_iff {a b : ByteArray} : eqB a b = true ↔ a = b := by
  unfold eqB
  constructor
  · intro h
    by_cases e : a = b
    · exact e
    · rw [toList_of_ne e] at h
      cases h
  · rintro rfl
    exact beq_self_eq_true _
theorem eqB_ne {a b : ByteArray} (h : eqB a b = false) : a ≠ b := by
  rintro rfl
  rw [eqB_iff.2 rfl] at h
  cases h
/-- the place of the first product with a name, from a place on -/
def findFrom (name : ByteArray) : List Prod → Nat → Option Nat
  | [], _ => .none
  | p :: l, i => if eqB p.name name then some i else findFrom name l (i + 1)
def findP (l : List Prod) (name : ByteArray) : Option Nat := findFrom name l 0
theorem findFrom_lt {name : ByteArray} : ∀ {l : List Prod} {i k : Nat}, findFrom name l i = some k → i ≤ k ∧ k < i + l.length
  | [], i, k, h => by cases h
  | p :: l, i, k, h => by
    unfold findFrom at h
    split at h
    · injection h with h; subst h; simp
    · have := findFrom_lt h
      simp
      omega
theorem findFrom_drop {name : ByteArray} {l : List Prod} {k : Nat} (h : k < l.length) (j : Nat) : findFrom name (l.drop k) j = if eqB l[k].name name then some j else findFrom name (l.drop (k + 1)) (j + 1) := by
  rw [List.drop_eq_getElem_cons h]
  rfl
theorem findFrom_end {name : ByteArray} {l : List Prod} (j : Nat) : findFrom name (l.drop l.length) j = none := by
  rw [List.drop_length]
  rfl
def inR (n a b : Int) : Bool := decide (a ≤ n) && decide (n ≤ b)
def rangeOk (p : Prod) : Bool := inR p.supply 1 4 && (inR p.reserve 0 1000000 && (inR p.points 0 1000 && inR p.group 0 4))
theorem rangeOk_iff {p : Prod} : rangeOk p = true ↔ (1 ≤ p.supply ∧ p.supply ≤ 4) ∧ (0 ≤ p.reserve ∧ p.reserve ≤ 1000000) ∧ (0 ≤ p.points ∧ p.points ≤ 1000) ∧ (0 ≤ p.group ∧ p.group ≤ 4) := by simp [rangeOk, inR, and_assoc]
/-- the errors of the products from place i on: 0 if there are none -/
def checkGo (l : List Prod) : List Prod → Nat → Int
  | [], _ => 0
  | p :: r, i => if nameOk p.name then (if (findP (l.take i) p.name).isSome then 7 else if rangeOk p then checkGo l r (i + 1) else 4) else 5
theorem checkGo_drop {l : List Prod} {k : Nat} (hk : k < l.length) : checkGo l (l.drop k) k = if nameOk l[k].name then (if (findP (l.take k) l[k].name).isSome then 7 else if rangeOk l[k] then checkGo l (l.drop (k + 1)) (k + 1) else 4) else 5 := by
  rw [List.drop_eq_getElem_cons hk]
  rfl
/-- all products' ranges are right where the check finds nothing wrong -/
theorem checkGo_range {l : List Prod} : ∀ (r : List Prod) (i : Nat), checkGo l r i = 0 → ∀ p ∈ r, rangeOk p = true ∧ nameOk p.name = true
  | [], _, _, p, hp => by cases hp
  | q :: r, i, h, p, hp => by
    unfold checkGo at h
    split at h
    · rename_i hn
      split at h
      · cases h
      · split at h
        · rename_i hr
          rcases List.mem_cons.1 hp with e | e
          · subst e; exact ⟨hr, hn⟩
          · exact checkGo_range r (i + 1) h p e
        · cases h
    · cases h
/-- a bundle's cells -/
@[reducible] def arr (p : Nat → Int) : Array Value := #[.int .i64 (p 0), .int .i64 (p 1), .int .i64 (p 2), .int .i64 (p 3), .int .i64 (p 4), .int .i64 (p 5)]
def upd (p : Nat → Int) (k : Nat) (v : Int) : Nat → Int := fun i => if i = k then v else p i
theorem arr_get (p : Nat → Int) (k : Nat) (hk : k < 6) : (arr p)[k]? = some (.int .i64 (p k)) := by
  obtain rfl | rfl | rfl | rfl | rfl | rfl : k = 0 ∨ k = 1 ∨ k = 2 ∨ k = 3 ∨ k = 4 ∨ k = 5 := by omega
  all_goals rfl
theorem arr_set (p : Nat → Int) (k : Nat) (hk : k < 6) (v : Int) : (arr p).setIfInBounds k (.int .i64 v) = arr (upd p k v) := by
  obtain rfl | rfl | rfl | rfl | rfl | rfl : k = 0 ∨ k = 1 ∨ k = 2 ∨ k = 3 ∨ k = 4 ∨ k = 5 := by omega
  all_goals rfl
def zero6 : Nat → Int := fun _ => 0
def validB (p : Nat → Int) : Bool := (List.range 6).all fun i => decide (0 ≤ p i ∧ p i ≤ 4)
theorem validB_iff {p : Nat → Int} : validB p = true ↔ ∀ i, i < 6 → 0 ≤ p i ∧ p i ≤ 4 := by
  unfold validB
  rw [List.all_eq_true]
  constructor
  · intro h i hi
    simpa using h i (List.mem_range.2 hi)
  · intro h i hi
    simpa using h i (List.mem_range.1 hi)
end Cat
end Go.Proofs.YtfopmaeaclbknaaDoor
namespace Go.Proofs.YtfopmaeaclbknaaDoor
open Go.ChangeShapes Go.WideShapes Go.ChangeAt Go.RowKit
set_option linter.unusedVariables false
set_option linter.unusedSimpArgs false
namespace Cat
open Lex
def findI (l : List Prod) (name : ByteArray) : Int := (((findP l name).getD 0 : Nat) : Int)
def findOk (l : List Prod) (name : ByteArray) : Bool := (findP l name).isSome
abbrev FindPost (l : List Prod) (name : ByteArray) (w : World) : Ending → World → Prop := fun e w' => e = .returned (.tuple #[.int .i64 (findI l name), .bool (findOk l name)]) ∧ Below w.heap.size w w'
theorem find_empty (A : Option Addr) (c : Nat) (name : ByteArray) (w : World) : Calls Tryd.prog 110 #[.slice A 0 c, .string name] w (FindPost [] name w) := by
  go_enter Tryd.func110, Tryd.ntmps110
  go_wp2_with fail
  refine wp_loop_rounds 1 ?_
  rw [rounds_succ]
  go_wp2_with fail
  go_ret2
  exact ⟨rfl, Below.refl _ _⟩
theorem find_some (l : List Prod) (b1 o1 c1 : Nat) (name : ByteArray) (w : World) (hl : l.length ≤ 5000) (h1 : ProdRow w b1 o1 l) (h0 : 0 < l.length) :
    Calls Tryd.prog 110 #[.slice (some ⟨b1, o1, none⟩) l.length c1, .string name] w (FindPost l name w) := by
  have hb1 : b1 < w.heap.size := block_lt_of_cell (h1.at_ 0 h0).1
  have HR := Lib.hid h1
  clear h1 h0
  go_enter Tryd.func110, Tryd.ntmps110
  go_wp2_with fail
  go_loopw [10] (fun i wr => ∃ k : Nat, k ≤ l.length ∧ i = .int .i64 (k : Int) ∧ Hid (findFrom name (l.drop k) k = findP l name) ∧ Hid (Below w.heap.size w wr)) (fun i _ => l.length - (intOf i).toNat)
  case atStart => exact ⟨0, by omega, rfl, rfl, Below.refl _ _⟩
  case round =>
    obtain ⟨k, hk, rfl, HX, HB0⟩ := hrel
    by_cases hlt : k < l.length
    · have hd : decide ((k : Int) < (l.length : Int)) = true := by simp; omega
      have hi0 : (0 : Int) ≤ (k : Int) := by omega
      have et := HR.out.at_ k hlt
      simp only [← HB0.out.cell (p := ⟨b1, _, none⟩) hb1] at et
      have hbr : b1 < wr.heap.size := by have := HB0.out.size; omega
      have hst := findFrom_drop (name := name) hlt k
      cases he : eqB l[k].name name with
      | true =>
        rw [he, if_pos rfl] at hst
        have HF : Hid (findP l name = some k) := HX.out.symm.trans hst
        have he2 : (l[k].name.toList == name.toList) = true := he
        clear hst he
        generalize l[k] = p at *
        go_wp2_with fail
        go_ret2
        exact ⟨by unfold findI findOk; rw [HF.out]; rfl, HB0.out.alloc HB0.out.size _⟩
      | false =>
        rw [he, if_neg (by simp)] at hst
        have HF : Hid (findFrom name (l.drop (k + 1)) (k + 1) = findP l name) := hst.symm.trans HX.out
        have he2 : (l[k].name.toList == name.toList) = false := he
        clear hst he
        generalize l[k] = p at *
        go_wp2_with fail
        go_roundw
        case rel => exact ⟨k + 1, by omega, by go_num, HF, HB0.out.alloc HB0.out.size _⟩
        case measure => simp [intOf]; omega
    · obtain rfl : k = l.length := by omega
      have hd : decide ((l.length : Int) < (l.length : Int)) = false := by simp
      have HF : Hid (findP l name = none) := HX.out.symm.trans (findFrom_end _)
      go_wp2_with fail
      go_ret2
      exact ⟨by unfold findI findOk; rw [HF.out]; rfl, HB0.out⟩
/-- a list of products in memory -/
abbrev PS (w : World) (v : Value) (l : List Prod) : Prop := Sl w 5 v l.length (prodCells l)
theorem ps_cases {w : World} {v : Value} {l : List Prod} (h : PS w v l) : ∃ A c, v = .slice A l.length c ∧ l.length ≤ c ∧ c ≤ maxLen ∧ (0 < l.length → ∃ b o, A = some ⟨b, o, none⟩ ∧ b < w.heap.size ∧ ProdRow w b o l) := by
  obtain ⟨_, A, c, h1, h2, h3, h4⟩ := h
  exact ⟨A, c, h1, h2, h3, h4⟩
theorem find_any (l : List Prod) (v : Value) (name : ByteArray) (w : World) (hl : l.length ≤ 5000) (h : PS w v l) : Calls Tryd.prog 110 #[v, .string name] w (FindPost l name w) := by
  obtain ⟨A, c, rfl, _, _, ha⟩ := ps_cases h
  cases l with
  | nil => exact find_empty A c name w
  | cons p l =>
    obtain ⟨b, o, rfl, _, r⟩ := ha (by simp)
    exact find_some _ b o c name w hl r (by simp)
end Cat
end Go.Proofs.YtfopmaeaclbknaaDoor
