/- Contracts of Find of both. Printed by gen_ros.py. -/
import Derived.Test.YthehchdonmmpaaaGreatDoorRosT
import Derived.Deep.RegionHeld3
namespace Go.Proofs.YthehchdonmmpaaaGreatDoor.Ros
open Go.ChangeShapes Go.WideShapes Go.ChangeAt Go.RowKit Gn Cat Lex
set_option linter.unusedVariables false
set_option linter.unusedSimpArgs false
def findI (l : List Bid) (name : ByteArray) : Int := (((findB l name).getD 0 : Nat) : Int)
def findOk (l : List Bid) (name : ByteArray) : Bool := (findB l name).isSome
abbrev FindPost (l : List Bid) (name : ByteArray) (w : World) : Ending → World → Prop := fun e w' => e = .returned (.tuple #[.int .i64 (findI l name), .bool (findOk l name)]) ∧ Below w.heap.size w w'

theorem find_empty (A : Option Addr) (c : Nat) (name : ByteArray) (w : World) : Calls Tryz.prog 35 #[.slice A 0 c, .string name] w (FindPost [] name w) := by
  go_enter Tryz.func35, Tryz.ntmps35
  go_wp2_with fail
  refine wp_loop_rounds 1 ?_
  rw [rounds_succ]
  go_wp2_with fail
  go_ret2
  exact ⟨rfl, Below.refl _ _⟩
theorem find_some (l : List Bid) (b1 o1 c1 : Nat) (name : ByteArray) (w : World) (hl : l.length ≤ 5000) (hb1 : b1 < w.heap.size) (h1 : BidRow w b1 o1 l) :
    Calls Tryz.prog 35 #[.slice (some ⟨b1, o1, none⟩) l.length c1, .string name] w (FindPost l name w) := by
  have HR := Lib.hid h1
  clear h1
  go_enter Tryz.func35, Tryz.ntmps35
  go_wp2_with fail
  go_loopw [10] (fun i wr => ∃ k : Nat, k ≤ l.length ∧ i = .int .i64 (k : Int) ∧ Hid (findFromB name (l.drop k) k = findB l name) ∧ Hid (Below w.heap.size w wr)) (fun i _ => l.length - (intOf i).toNat)
  case atStart => exact ⟨0, by omega, rfl, rfl, Below.refl _ _⟩
  case round =>
    obtain ⟨k, hk, rfl, HX, HB0⟩ := hrel
    by_cases hlt : k < l.length
    · have hd : decide ((k : Int) < (l.length : Int)) = true := by simp; omega
      have hi0 : (0 : Int) ≤ (k : Int) := by omega
      have et := HR.out.at_ k hlt
      simp only [← HB0.out.cell (p := ⟨b1, _, none⟩) hb1] at et
      have hbr : b1 < wr.heap.size := by have := HB0.out.size; omega
      have hst := findFromB_drop (name := name) hlt k
      cases he : eqB l[k].name name with
      | true =>
        rw [he, if_pos rfl] at hst
        have HF : Hid (findB l name = some k) := HX.out.symm.trans hst
        have he2 : (l[k].name.toList == name.toList) = true := he
        clear hst he
        generalize l[k] = p at *
        go_wp2_with fail
        go_ret2
        exact ⟨by unfold findI findOk; rw [HF.out]; rfl, HB0.out.alloc HB0.out.size _⟩
      | false =>
        rw [he, if_neg (by simp)] at hst
        have HF : Hid (findFromB name (l.drop (k + 1)) (k + 1) = findB l name) := hst.symm.trans HX.out
        have he2 : (l[k].name.toList == name.toList) = false := he
        clear hst he
        generalize l[k] = p at *
        go_wp2_with fail
        go_roundw
        case rel => exact ⟨k + 1, by omega, by go_num, HF, HB0.out.alloc HB0.out.size _⟩
        case measure => simp [intOf]; omega
    · obtain rfl : k = l.length := by omega
      have hd : decide ((l.length : Int) < (l.length : Int)) = false := by simp
      have HF : Hid (findB l name = none) := HX.out.symm.trans (findFromB_end _)
      go_wp2_with fail
      go_ret2
      exact ⟨by unfold findI findOk; rw [HF.out]; rfl, HB0.out⟩
theorem find_take (l : List Bid) (b1 o1 c1 k : Nat) (name : ByteArray) (w : World) (hl : l.length ≤ 5000) (hk : k ≤ l.length) (hb1 : b1 < w.heap.size) (h1 : BidRow w b1 o1 l) : Calls Tryz.prog 35 #[.slice (some ⟨b1, o1, none⟩) k c1, .string name] w (FindPost (l.take k) name w) := by
  have e : (l.take k).length = k := by simp; omega
  have h := find_some (l.take k) b1 o1 c1 name w (by omega) hb1 (h1.take k)
  rw [e] at h
  exact h
theorem find_any (l : List Bid) (v : Value) (name : ByteArray) (w : World) (hl : l.length ≤ 5000) (h : BidS w v l) : Calls Tryz.prog 35 #[v, .string name] w (FindPost l name w) := by
  obtain ⟨A, c, rfl, _, _, ha⟩ := sl_parts h
  cases l with
  | nil => exact find_empty A c name w
  | cons p l =>
    obtain ⟨b, o, rfl, hb, r⟩ := ha (by simp)
    exact find_some _ b o c name w hl hb r
theorem rfind_empty (A : Option Addr) (c : Nat) (name : ByteArray) (w : World) : Calls Tryz.prog 70 #[.slice A 0 c, .string name] w (FindPost [] name w) := by
  go_enter Tryz.func70, Tryz.ntmps70
  go_wp2_with fail
  refine wp_loop_rounds 1 ?_
  rw [rounds_succ]
  go_wp2_with fail
  go_ret2
  exact ⟨rfl, Below.refl _ _⟩
theorem rfind_some (l : List Bid) (b1 o1 c1 : Nat) (name : ByteArray) (w : World) (hl : l.length ≤ 5000) (hb1 : b1 < w.heap.size) (h1 : BidRow w b1 o1 l) :
    Calls Tryz.prog 70 #[.slice (some ⟨b1, o1, none⟩) l.length c1, .string name] w (FindPost l name w) := by
  have HR := Lib.hid h1
  clear h1
  go_enter Tryz.func70, Tryz.ntmps70
  go_wp2_with fail
  go_loopw [6] (fun i wr => ∃ k : Nat, k ≤ l.length ∧ i = .int .i64 (k : Int) ∧ Hid (findFromB name (l.drop k) k = findB l name) ∧ Hid (Below w.heap.size w wr)) (fun i _ => l.length - (intOf i).toNat)
  case atStart => exact ⟨0, by omega, rfl, rfl, Below.refl _ _⟩
  case round =>
    obtain ⟨k, hk, rfl, HX, HB0⟩ := hrel
    by_cases hlt : k < l.length
    · have hd : decide ((k : Int) < (l.length : Int)) = true := by simp; omega
      have hi0 : (0 : Int) ≤ (k : Int) := by omega
      have et := HR.out.at_ k hlt
      simp only [← HB0.out.cell (p := ⟨b1, _, none⟩) hb1] at et
      have hbr : b1 < wr.heap.size := by have := HB0.out.size; omega
      have hst := findFromB_drop (name := name) hlt k
      cases he : eqB l[k].name name with
      | true =>
        rw [he, if_pos rfl] at hst
        have HF : Hid (findB l name = some k) := HX.out.symm.trans hst
        have he2 : (l[k].name.toList == name.toList) = true := he
        clear hst he
        generalize l[k] = p at *
        go_wp2_with fail
        go_ret2
        exact ⟨by unfold findI findOk; rw [HF.out]; rfl, HB0.out⟩
      | false =>
        rw [he, if_neg (by simp)] at hst
        have HF : Hid (findFromB name (l.drop (k + 1)) (k + 1) = findB l name) := hst.symm.trans HX.out
        have he2 : (l[k].name.toList == name.toList) = false := he
        clear hst he
        generalize l[k] = p at *
        go_wp2_with fail
        go_roundw
        case rel => exact ⟨k + 1, by omega, by go_num, HF, HB0.out⟩
        case measure => simp [intOf]; omega
    · obtain rfl : k = l.length := by omega
      have hd : decide ((l.length : Int) < (l.length : Int)) = false := by simp
      have HF : Hid (findB l name = none) := HX.out.symm.trans (findFromB_end _)
      go_wp2_with fail
      go_ret2
      exact ⟨by unfold findI findOk; rw [HF.out]; rfl, HB0.out⟩
theorem rfind_take (l : List Bid) (b1 o1 c1 k : Nat) (name : ByteArray) (w : World) (hl : l.length ≤ 5000) (hk : k ≤ l.length) (hb1 : b1 < w.heap.size) (h1 : BidRow w b1 o1 l) : Calls Tryz.prog 70 #[.slice (some ⟨b1, o1, none⟩) k c1, .string name] w (FindPost (l.take k) name w) := by
  have e : (l.take k).length = k := by simp; omega
  have h := rfind_some (l.take k) b1 o1 c1 name w (by omega) hb1 (h1.take k)
  rw [e] at h
  exact h
theorem rfind_any (l : List Bid) (v : Value) (name : ByteArray) (w : World) (hl : l.length ≤ 5000) (h : BidS w v l) : Calls Tryz.prog 70 #[v, .string name] w (FindPost l name w) := by
  obtain ⟨A, c, rfl, _, _, ha⟩ := sl_parts h
  cases l with
  | nil => exact rfind_empty A c name w
  | cons p l =>
    obtain ⟨b, o, rfl, hb, r⟩ := ha (by simp)
    exact rfind_some _ b o c name w hl hb r
end Go.Proofs.YthehchdonmmpaaaGreatDoor.Ros
