/- Plain: the chapter's examples; contracts at them. -/
import Derived.Test.YtabkaaapkcadhaaCatP
import Derived.Test.YtabkaaapkcadhaaCatF
import Derived.Test.YtabkaaapkcadhaaCatG
import Derived.Test.YtabkaaapkcadhaaCatJ
namespace Go.Proofs.Ytabkaaapkcadhaa
open Go.ChangeShapes Go.WideShapes Go.ChangeAt Go.RowKit
set_option linter.unusedVariables false
set_option linter.unusedSimpArgs false
namespace Cat
open Lex
def twoL : List Prod := [⟨⟨#[97]⟩, 2, 0, 2, 0⟩, ⟨⟨#[98]⟩, 2, 5, 3, 1⟩]
@[reducible] def twoV (b : Nat) : Value := .slice (some ⟨b, 0, none⟩) 2 2
theorem ps_row {w : World} {b : Nat} {t : TypeId} {l : List Prod} {n : Nat} (h : Blk w b t (prodCells l).toArray) (hn : l.length = n) (hm : n ≤ maxLen) : PS w (.slice (some ⟨b, 0, none⟩) n n) l := by
  subst hn
  refine ⟨prodCells_len l, _, _, rfl, Nat.le_refl _, hm, fun _ => ⟨b, 0, rfl, h.lt, fun j u hu => ?_⟩⟩
  rw [Nat.zero_add, h.cell j]
  simpa using hu
theorem two_any (w : World) : Calls Try.prog 72 #[] w fun e w' => e = .returned (twoV w.heap.size) ∧ Below w.heap.size w w' ∧ PS w' (twoV w.heap.size) twoL := by
  have HP := Lib.hid (ps_row (l := twoL) (n := 2) (Blk.new w 98 #[.string ⟨#[97]⟩, .int .i64 2, .int .i64 0, .int .i64 2, .int .i64 0, .string ⟨#[98]⟩, .int .i64 2, .int .i64 5, .int .i64 3, .int .i64 1]) rfl (by decide))
  go_enter Try.func72, Try.ntmps72
  go_wp2_with fail
  go_ret
  exact ⟨rfl, below_new _ _, HP.out⟩
def b12 : Nat → Int := fun i => if i = 0 then 1 else if i = 1 then 2 else 0
def b22 : Nat → Int := fun i => if i = 0 then 2 else if i = 1 then 2 else 0
def x1 : ByteArray := ⟨#[123, 32, 98, 32, 58, 32, 50, 32, 44, 32, 97, 32, 58, 32, 49, 32, 125]⟩
def x2 : ByteArray := ⟨#[123, 97, 58, 48, 125]⟩
def x3 : ByteArray := ⟨#[123, 97, 58, 49, 44, 97, 58, 49, 125]⟩
def x4 : ByteArray := ⟨#[123, 97, 58, 49]⟩
theorem arr_of {p : Nat → Int} {a b c d e f : Int} (h : p 0 = a ∧ p 1 = b ∧ p 2 = c ∧ p 3 = d ∧ p 4 = e ∧ p 5 = f) : arr p = #[.int .i64 a, .int .i64 b, .int .i64 c, .int .i64 d, .int .i64 e, .int .i64 f] := by
  obtain ⟨rfl, rfl, rfl, rfl, rfl, rfl⟩ := h
  rfl
theorem two_names : ∀ p ∈ twoL, p.name.size ≤ maxLen := by
  intro p hp
  unfold maxLen
  simp [twoL] at hp
  rcases hp with rfl | rfl <;> decide
theorem v1 : (parseF twoL x1).2 = 0 ∧ ((parseF twoL x1).1 0 = 1 ∧ (parseF twoL x1).1 1 = 2 ∧ (parseF twoL x1).1 2 = 0 ∧ (parseF twoL x1).1 3 = 0 ∧ (parseF twoL x1).1 4 = 0 ∧ (parseF twoL x1).1 5 = 0) := by decide +kernel
theorem v2 : (parseF twoL x2).2 = 4 ∧ ((parseF twoL x2).1 0 = 0 ∧ (parseF twoL x2).1 1 = 0 ∧ (parseF twoL x2).1 2 = 0 ∧ (parseF twoL x2).1 3 = 0 ∧ (parseF twoL x2).1 4 = 0 ∧ (parseF twoL x2).1 5 = 0) := by decide +kernel
theorem v3 : (parseF twoL x3).2 = 7 ∧ ((parseF twoL x3).1 0 = 0 ∧ (parseF twoL x3).1 1 = 0 ∧ (parseF twoL x3).1 2 = 0 ∧ (parseF twoL x3).1 3 = 0 ∧ (parseF twoL x3).1 4 = 0 ∧ (parseF twoL x3).1 5 = 0) := by decide +kernel
theorem v4 : (parseF twoL x4).2 = 1 ∧ ((parseF twoL x4).1 0 = 0 ∧ (parseF twoL x4).1 1 = 0 ∧ (parseF twoL x4).1 2 = 0 ∧ (parseF twoL x4).1 3 = 0 ∧ (parseF twoL x4).1 4 = 0 ∧ (parseF twoL x4).1 5 = 0) := by decide +kernel
theorem p1_any (b : Nat) (w : World) (h : PS w (twoV b) twoL) : Calls Try.prog 56 #[twoV b, .string ⟨#[123, 32, 98, 32, 58, 32, 50, 32, 44, 32, 97, 32, 58, 32, 49, 32, 125]⟩] w fun e w' => e = .returned (.tuple #[.agg #[.int .i64 1, .int .i64 2, .int .i64 0, .int .i64 0, .int .i64 0, .int .i64 0], .int .i64 0]) ∧ Below w.heap.size w w' := by
  rw [← arr_of v1.2]
  have := parse_any twoL (twoV b) x1 w (by decide) h two_names (by decide)
  unfold ParsePost at this
  rw [v1.1] at this
  exact this
theorem p2_any (b : Nat) (w : World) (h : PS w (twoV b) twoL) : Calls Try.prog 56 #[twoV b, .string ⟨#[123, 97, 58, 48, 125]⟩] w fun e w' => e = .returned (.tuple #[.agg #[.int .i64 0, .int .i64 0, .int .i64 0, .int .i64 0, .int .i64 0, .int .i64 0], .int .i64 4]) ∧ Below w.heap.size w w' := by
  rw [← arr_of v2.2]
  have := parse_any twoL (twoV b) x2 w (by decide) h two_names (by decide)
  unfold ParsePost at this
  rw [v2.1] at this
  exact this
theorem p3_any (b : Nat) (w : World) (h : PS w (twoV b) twoL) : Calls Try.prog 56 #[twoV b, .string ⟨#[123, 97, 58, 49, 44, 97, 58, 49, 125]⟩] w fun e w' => e = .returned (.tuple #[.agg #[.int .i64 0, .int .i64 0, .int .i64 0, .int .i64 0, .int .i64 0, .int .i64 0], .int .i64 7]) ∧ Below w.heap.size w w' := by
  rw [← arr_of v3.2]
  have := parse_any twoL (twoV b) x3 w (by decide) h two_names (by decide)
  unfold ParsePost at this
  rw [v3.1] at this
  exact this
theorem p4_any (b : Nat) (w : World) (h : PS w (twoV b) twoL) : Calls Try.prog 56 #[twoV b, .string ⟨#[123, 97, 58, 49]⟩] w fun e w' => e = .returned (.tuple #[.agg #[.int .i64 0, .int .i64 0, .int .i64 0, .int .i64 0, .int .i64 0, .int .i64 0], .int .i64 1]) ∧ Below w.heap.size w w' := by
  rw [← arr_of v4.2]
  have := parse_any twoL (twoV b) x4 w (by decide) h two_names (by decide)
  unfold ParsePost at this
  rw [v4.1] at this
  exact this
theorem f1_any (b : Nat) (w : World) (h : PS w (twoV b) twoL) : Calls Try.prog 43 #[twoV b, .string ⟨#[98]⟩] w fun e w' => e = .returned (.tuple #[.int .i64 1, .bool true]) ∧ Below w.heap.size w w' := by
  have := find_any twoL (twoV b) ⟨#[98]⟩ w (by decide) h
  have e1 : findI twoL ⟨#[98]⟩ = 1 := by decide +kernel
  have e2 : findOk twoL ⟨#[98]⟩ = true := by decide +kernel
  unfold FindPost at this
  rw [e1, e2] at this
  exact this
theorem c1_any (b : Nat) (w : World) (h : PS w (twoV b) twoL) : Calls Try.prog 45 #[twoV b] w fun e w' => e = .returned (.int .i64 0) ∧ Below w.heap.size w w' := by
  have := check_any twoL (twoV b) w (by decide) h two_names
  have e1 : checkE twoL = 0 := by decide +kernel
  unfold CheckPost at this
  rw [e1] at this
  exact this
theorem pt1_any (b : Nat) (w : World) (h : PS w (twoV b) twoL) : Calls Try.prog 50 #[twoV b, .agg #[.int .i64 1, .int .i64 2, .int .i64 0, .int .i64 0, .int .i64 0, .int .i64 0]] w fun e w' => e = .returned (.int .i64 8) ∧ Below w.heap.size w w' := by
  have := points_any twoL (twoV b) b12 w (by decide) h two_names
  have e1 : sumE Prod.points b12 twoL = 8 := by decide +kernel
  rw [e1] at this
  exact this
theorem rs1_any (b : Nat) (w : World) (h : PS w (twoV b) twoL) : Calls Try.prog 51 #[twoV b, .agg #[.int .i64 1, .int .i64 2, .int .i64 0, .int .i64 0, .int .i64 0, .int .i64 0]] w fun e w' => e = .returned (.int .i64 10) ∧ Below w.heap.size w w' := by
  have := reserve_any twoL (twoV b) b12 w (by decide) h two_names
  have e1 : sumE Prod.reserve b12 twoL = 10 := by decide +kernel
  rw [e1] at this
  exact this
theorem un1_any (b : Nat) (w : World) (h : PS w (twoV b) twoL) : Calls Try.prog 52 #[twoV b, .int .i64 1, .agg #[.int .i64 1, .int .i64 2, .int .i64 0, .int .i64 0, .int .i64 0, .int .i64 0]] w fun e w' => e = .returned (.int .i64 2) ∧ Below w.heap.size w w' := by
  have := units_any twoL (twoV b) 1 b12 w (by decide) h two_names
  have e1 : sumE (gw 1) b12 twoL = 2 := by decide +kernel
  rw [e1] at this
  exact this
theorem fm1_any (b : Nat) (w : World) (h : PS w (twoV b) twoL) : Calls Try.prog 54 #[twoV b, .agg #[.int .i64 1, .int .i64 2, .int .i64 0, .int .i64 0, .int .i64 0, .int .i64 0]] w fun e w' => e = .returned (.string ⟨#[123, 97, 58, 49, 44, 98, 58, 50, 125]⟩) ∧ Below w.heap.size w w' := by
  have := format_any twoL (twoV b) b12 w (by decide) h two_names
  have e1 : fmtS b12 twoL = ⟨#[123, 97, 58, 49, 44, 98, 58, 50, 125]⟩ := by decide +kernel
  rw [e1] at this
  exact this
theorem sp1_any (b : Nat) (w : World) (h : PS w (twoV b) twoL) : Calls Try.prog 47 #[twoV b] w fun e w' => e = .returned (.agg #[.int .i64 2, .int .i64 2, .int .i64 0, .int .i64 0, .int .i64 0, .int .i64 0]) ∧ Below w.heap.size w w' := by
  have := supply_any twoL (twoV b) w (by decide) h
  have e1 : arr (supP twoL) = #[.int .i64 2, .int .i64 2, .int .i64 0, .int .i64 0, .int .i64 0, .int .i64 0] := arr_of (by decide +kernel)
  rw [e1] at this
  exact this
end Cat
end Go.Proofs.Ytabkaaapkcadhaa
