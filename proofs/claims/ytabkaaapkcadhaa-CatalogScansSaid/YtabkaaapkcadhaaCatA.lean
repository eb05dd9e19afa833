/- Contracts of Find of both. -/
import Derived.Test.YtabkaaapkcadhaaCatT
namespace Go.Proofs.Ytabkaaapkcadhaa
open Go.ChangeShapes Go.WideShapes Go.ChangeAt Go.RowKit
set_option linter.unusedVariables false
set_option linter.unusedSimpArgs false
namespace Cat
open Lex
def findI (l : List Prod) (name : ByteArray) : Int := (((findP l name).getD 0 : Nat) : Int)
def findOk (l : List Prod) (name : ByteArray) : Bool := (findP l name).isSome
abbrev FindPost (l : List Prod) (name : ByteArray) (w : World) : Ending → World → Prop := fun e w' => e = .returned (.tuple #[.int .i64 (findI l name), .bool (findOk l name)]) ∧ Below w.heap.size w w'
theorem find_empty (A : Option Addr) (c : Nat) (name : ByteArray) (w : World) : Calls Try.prog 43 #[.slice A 0 c, .string name] w (FindPost [] name w) := by
  go_enter Try.func43, Try.ntmps43
  go_wp2_with fail
  refine wp_loop_rounds 1 ?_
  rw [rounds_succ]
  go_wp2_with fail
  go_ret2
  exact ⟨rfl, Below.refl _ _⟩
theorem rfind_empty (A : Option Addr) (c : Nat) (name : ByteArray) (w : World) : Calls Try.prog 44 #[.slice A 0 c, .string name] w (FindPost [] name w) := by
  go_enter Try.func44, Try.ntmps44
  go_wp2_with fail
  refine wp_loop_rounds 1 ?_
  rw [rounds_succ]
  go_wp2_with fail
  go_ret2
  exact ⟨rfl, Below.refl _ _⟩
theorem find_some (l : List Prod) (b1 o1 c1 : Nat) (name : ByteArray) (w : World) (hl : l.length ≤ 5000) (h1 : ProdRow w b1 o1 l) (h0 : 0 < l.length) :
    Calls Try.prog 43 #[.slice (some ⟨b1, o1, none⟩) l.length c1, .string name] w (FindPost l name w) := by
  have hb1 : b1 < w.heap.size := block_lt_of_cell (h1.at_ 0 h0).1
  have HR := Lib.hid h1
  clear h1 h0
  go_enter Try.func43, Try.ntmps43
  go_wp2_with fail
  go_loopw [10] (fun i wr => ∃ k : Nat, k ≤ l.length ∧ i = .int .i64 (k : Int) ∧ Hid (findFrom name (l.drop k) k = findP l name) ∧ Hid (Below w.heap.size w wr)) (fun i _ => l.length - (intOf i).toNat)
  case atStart => exact ⟨0, by omega, rfl, rfl, Below.refl _ _⟩
  case round =>
    obtain ⟨k, hk, rfl, HX, HB0⟩ := hrel
    by_cases hlt : k < l.length
    · have hd : decide ((k : Int) < (l.length : Int)) = true := by simp; omega
      have hi0 : (0 : Int) ≤ (k : Int) := by omega
      have et := HR.out.at_ k hlt
      simp only [← HB0.out.cell (p := ⟨b1, _, none⟩) hb1] at et
      have hbr : b1 < wr.heap.size := by have := HB0.out.size; omega
      have hst := findFrom_drop (name := name) hlt k
      cases he : eqB l[k].name name with
      | true =>
        rw [he, if_pos rfl] at hst
        have HF : Hid (findP l name = some k) := HX.out.symm.trans hst
        have he2 : (l[k].name.toList == name.toList) = true := he
        clear hst he
        generalize l[k] = p at *
        go_wp2_with fail
        go_ret2
        exact ⟨by unfold findI findOk; rw [HF.out]; rfl, HB0.out.alloc HB0.out.size _⟩
      | false =>
        rw [he, if_neg (by simp)] at hst
        have HF : Hid (findFrom name (l.drop (k + 1)) (k + 1) = findP l name) := hst.symm.trans HX.out
        have he2 : (l[k].name.toList == name.toList) = false := he
        clear hst he
        generalize l[k] = p at *
        go_wp2_with fail
        go_roundw
        case rel => exact ⟨k + 1, by omega, by go_num, HF, HB0.out.alloc HB0.out.size _⟩
        case measure => simp [intOf]; omega
    · obtain rfl : k = l.length := by omega
      have hd : decide ((l.length : Int) < (l.length : Int)) = false := by simp
      have HF : Hid (findP l name = none) := HX.out.symm.trans (findFrom_end _)
      go_wp2_with fail
      go_ret2
      exact ⟨by unfold findI findOk; rw [HF.out]; rfl, HB0.out⟩
theorem rfind_some (l : List Prod) (b1 o1 c1 : Nat) (name : ByteArray) (w : World) (hl : l.length ≤ 5000) (h1 : ProdRow w b1 o1 l) (h0 : 0 < l.length) :
    Calls Try.prog 44 #[.slice (some ⟨b1, o1, none⟩) l.length c1, .string name] w (FindPost l name w) := by
  have hb1 : b1 < w.heap.size := block_lt_of_cell (h1.at_ 0 h0).1
  have HR := Lib.hid h1
  clear h1 h0
  go_enter Try.func44, Try.ntmps44
  go_wp2_with fail
  go_loopw [6] (fun i wr => ∃ k : Nat, k ≤ l.length ∧ i = .int .i64 (k : Int) ∧ Hid (findFrom name (l.drop k) k = findP l name) ∧ Hid (Below w.heap.size w wr)) (fun i _ => l.length - (intOf i).toNat)
  case atStart => exact ⟨0, by omega, rfl, rfl, Below.refl _ _⟩
  case round =>
    obtain ⟨k, hk, rfl, HX, HB0⟩ := hrel
    by_cases hlt : k < l.length
    · have hd : decide ((k : Int) < (l.length : Int)) = true := by simp; omega
      have hi0 : (0 : Int) ≤ (k : Int) := by omega
      have et := HR.out.at_ k hlt
      simp only [← HB0.out.cell (p := ⟨b1, _, none⟩) hb1] at et
      have hbr : b1 < wr.heap.size := by have := HB0.out.size; omega
      have hst := findFrom_drop (name := name) hlt k
      cases he : eqB l[k].name name with
      | true =>
        rw [he, if_pos rfl] at hst
        have HF : Hid (findP l name = some k) := HX.out.symm.trans hst
        have he2 : (l[k].name.toList == name.toList) = true := he
        clear hst he
        generalize l[k] = p at *
        go_wp2_with fail
        go_ret2
        exact ⟨by unfold findI findOk; rw [HF.out]; rfl, HB0.out⟩
      | false =>
        rw [he, if_neg (by simp)] at hst
        have HF : Hid (findFrom name (l.drop (k + 1)) (k + 1) = findP l name) := hst.symm.trans HX.out
        have he2 : (l[k].name.toList == name.toList) = false := he
        clear hst he
        generalize l[k] = p at *
        go_wp2_with fail
        go_roundw
        case rel => exact ⟨k + 1, by omega, by go_num, HF, HB0.out⟩
        case measure => simp [intOf]; omega
    · obtain rfl : k = l.length := by omega
      have hd : decide ((l.length : Int) < (l.length : Int)) = false := by simp
      have HF : Hid (findP l name = none) := HX.out.symm.trans (findFrom_end _)
      go_wp2_with fail
      go_ret2
      exact ⟨by unfold findI findOk; rw [HF.out]; rfl, HB0.out⟩
/-- a list of products in memory -/
abbrev PS (w : World) (v : Value) (l : List Prod) : Prop := Sl w 5 v l.length (prodCells l)
theorem ps_cases {w : World} {v : Value} {l : List Prod} (h : PS w v l) : ∃ A c, v = .slice A l.length c ∧ l.length ≤ c ∧ c ≤ maxLen ∧ (0 < l.length → ∃ b o, A = some ⟨b, o, none⟩ ∧ b < w.heap.size ∧ ProdRow w b o l) := by
  obtain ⟨_, A, c, h1, h2, h3, h4⟩ := h
  exact ⟨A, c, h1, h2, h3, h4⟩
theorem find_any (l : List Prod) (v : Value) (name : ByteArray) (w : World) (hl : l.length ≤ 5000) (h : PS w v l) : Calls Try.prog 43 #[v, .string name] w (FindPost l name w) := by
  obtain ⟨A, c, rfl, _, _, ha⟩ := ps_cases h
  cases l with
  | nil => exact find_empty A c name w
  | cons p l =>
    obtain ⟨b, o, rfl, _, r⟩ := ha (by simp)
    exact find_some _ b o c name w hl r (by simp)
theorem rfind_any (l : List Prod) (v : Value) (name : ByteArray) (w : World) (hl : l.length ≤ 5000) (h : PS w v l) : Calls Try.prog 44 #[v, .string name] w (FindPost l name w) := by
  obtain ⟨A, c, rfl, _, _, ha⟩ := ps_cases h
  cases l with
  | nil => exact rfind_empty A c name w
  | cons p l =>
    obtain ⟨b, o, rfl, _, r⟩ := ha (by simp)
    exact rfind_some _ b o c name w hl r (by simp)
end Cat
end Go.Proofs.Ytabkaaapkcadhaa
