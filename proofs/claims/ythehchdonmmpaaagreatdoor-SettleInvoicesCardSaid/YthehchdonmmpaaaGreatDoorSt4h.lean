/- Contract of settle.invoice. Printed by gen_st4.py. -/
import Derived.Test.YthehchdonmmpaaaGreatDoorStE
import Derived.Test.YthehchdonmmpaaaGreatDoorSt2
import Derived.Test.YthehchdonmmpaaaGreatDoorSt3
import Derived.Test.YthehchdonmmpaaaGreatDoorFs3
import Derived.Test.YthehchdonmmpaaaGreatDoorFs4
import Derived.Test.YthehchdonmmpaaaGreatDoorRos1
namespace Go.Proofs.YthehchdonmmpaaaGreatDoor.St
open Go.ChangeShapes Go.WideShapes Go.ChangeAt Go.RowKit Gn Cat Lex Pr Ros Fr
set_option linter.unusedVariables false
set_option linter.unusedSimpArgs false
attribute [local go_sem] later_cell
abbrev Inv.zero : Inv := ⟨0, zero6, 0, 0, 0⟩
def okV : Except Int Inv → Inv
  | .ok x => x
  | .error _ => Inv.zero
def erV : Except Int Inv → Int
  | .ok _ => 0
  | .error x => x
/-- what invoice answers -/
def OnePost (R : Except Int Inv) (w : World) (e : Ending) (w' : World) : Prop := e = .returned (.tuple #[.agg (invA (okV R)), .int .i64 (erV R)]) ∧ Below w.heap.size w w'
abbrev zero10 : Array Value := #[.int .i64 0, .int .i64 0, .int .i64 0, .int .i64 0, .int .i64 0, .int .i64 0, .int .i64 0, .int .i64 0, .int .i64 0, .int .i64 0]
theorem one_err {R : Except Int Inv} {c : Int} {w w' : World} (h : R = .error c) (b : Below w.heap.size w w') : OnePost R w (.returned (.tuple #[.agg zero10, .int .i64 c])) w' := by subst h; exact ⟨rfl, b⟩
theorem one_ok {R : Except Int Inv} {x : Inv} {w w' : World} (h : R = .ok x) (b : Below w.heap.size w w') : OnePost R w (.returned (.tuple #[.agg (invA x), .int .i64 0])) w' := by subst h; exact ⟨rfl, b⟩
theorem five_alloc (w : World) (a0 a1 a2 a3 a4 : Array Value) (t0 t1 t2 t3 t4 : TypeId) :
    Blk (((((w.alloc (.cells a0 t0)).alloc (.cells a1 t1)).alloc (.cells a2 t2)).alloc (.cells a3 t3)).alloc (.cells a4 t4)) w.heap.size t0 a0 ∧ Blk (((((w.alloc (.cells a0 t0)).alloc (.cells a1 t1)).alloc (.cells a2 t2)).alloc (.cells a3 t3)).alloc (.cells a4 t4)) (w.heap.size + 1) t1 a1 ∧ Blk (((((w.alloc (.cells a0 t0)).alloc (.cells a1 t1)).alloc (.cells a2 t2)).alloc (.cells a3 t3)).alloc (.cells a4 t4)) (w.heap.size + 1 + 1) t2 a2 ∧
    Blk (((((w.alloc (.cells a0 t0)).alloc (.cells a1 t1)).alloc (.cells a2 t2)).alloc (.cells a3 t3)).alloc (.cells a4 t4)) (w.heap.size + 1 + 1 + 1) t3 a3 ∧ Blk (((((w.alloc (.cells a0 t0)).alloc (.cells a1 t1)).alloc (.cells a2 t2)).alloc (.cells a3 t3)).alloc (.cells a4 t4)) (w.heap.size + 1 + 1 + 1 + 1) t4 a4 ∧
    Below w.heap.size w (((((w.alloc (.cells a0 t0)).alloc (.cells a1 t1)).alloc (.cells a2 t2)).alloc (.cells a3 t3)).alloc (.cells a4 t4)) := by
  have e1 : (w.alloc (.cells a0 t0)).heap.size = w.heap.size + 1 := World.size_alloc _ _
  have e2 : ((w.alloc (.cells a0 t0)).alloc (.cells a1 t1)).heap.size = w.heap.size + 1 + 1 := by rw [World.size_alloc, e1]
  have e3 : (((w.alloc (.cells a0 t0)).alloc (.cells a1 t1)).alloc (.cells a2 t2)).heap.size = w.heap.size + 1 + 1 + 1 := by rw [World.size_alloc, e2]
  have e4 : ((((w.alloc (.cells a0 t0)).alloc (.cells a1 t1)).alloc (.cells a2 t2)).alloc (.cells a3 t3)).heap.size = w.heap.size + 1 + 1 + 1 + 1 := by rw [World.size_alloc, e3]
  have k1 := Blk.new (w.alloc (.cells a0 t0)) t1 a1
  have k2 := Blk.new ((w.alloc (.cells a0 t0)).alloc (.cells a1 t1)) t2 a2
  have k3 := Blk.new (((w.alloc (.cells a0 t0)).alloc (.cells a1 t1)).alloc (.cells a2 t2)) t3 a3
  have k4 := Blk.new ((((w.alloc (.cells a0 t0)).alloc (.cells a1 t1)).alloc (.cells a2 t2)).alloc (.cells a3 t3)) t4 a4
  rw [e1] at k1
  rw [e2] at k2
  rw [e3] at k3
  rw [e4] at k4
  exact ⟨((((Blk.new w t0 a0).alloc _).alloc _).alloc _).alloc _, ((k1.alloc _).alloc _).alloc _, (k2.alloc _).alloc _, k3.alloc _, k4, ((((below_new w _).alloc (below_new w _).size _).alloc (by rw [e2]; omega) _).alloc (by rw [e3]; omega) _).alloc (by rw [e4]; omega) _⟩
theorem bun6 {w : World} {g : Nat} {t : TypeId} {won : Nat → Int} (h : Blk w g t #[.int .i64 (won 0), .int .i64 (won 1), .int .i64 (won 2), .int .i64 (won 3), .int .i64 (won 4), .int .i64 (won 5)]) : w.cell? ⟨g, 0, none⟩ = some (.int .i64 (won 0)) ∧ w.cell? ⟨g, 1, none⟩ = some (.int .i64 (won 1)) ∧ w.cell? ⟨g, 2, none⟩ = some (.int .i64 (won 2)) ∧ w.cell? ⟨g, 3, none⟩ = some (.int .i64 (won 3)) ∧ w.cell? ⟨g, 4, none⟩ = some (.int .i64 (won 4)) ∧ w.cell? ⟨g, 5, none⟩ = some (.int .i64 (won 5)) :=
  ⟨h.cell 0, h.cell 1, h.cell 2, h.cell 3, h.cell 4, h.cell 5⟩
theorem put10 {w : World} {g : Nat} {t : TypeId} {a0 a1 a2 a3 a4 a5 a6 a7 a8 a9 : Value} (h : Blk w g t #[a0, a1, a2, a3, a4, a5, a6, a7, a8, a9]) (b0 b1 b2 b3 b4 b5 b6 b7 b8 b9 : Value) : Blk ((((((((((w.setCell ⟨g, 0, none⟩ b0).setCell ⟨g, 1, none⟩ b1).setCell ⟨g, 2, none⟩ b2).setCell ⟨g, 3, none⟩ b3).setCell ⟨g, 4, none⟩ b4).setCell ⟨g, 5, none⟩ b5).setCell ⟨g, 6, none⟩ b6).setCell ⟨g, 7, none⟩ b7).setCell ⟨g, 8, none⟩ b8).setCell ⟨g, 9, none⟩ b9) g t #[b0, b1, b2, b3, b4, b5, b6, b7, b8, b9] := by
  have := ((((((((((h.put 0 b0).put 1 b1).put 2 b2).put 3 b3).put 4 b4).put 5 b5).put 6 b6).put 7 b7).put 8 b8).put 9 b9)
  simpa using this
theorem below10 {w w' : World} {n g : Nat} (h : Below n w w') (hg : n ≤ g) (b0 b1 b2 b3 b4 b5 b6 b7 b8 b9 : Value) : Below n w ((((((((((w'.setCell ⟨g, 0, none⟩ b0).setCell ⟨g, 1, none⟩ b1).setCell ⟨g, 2, none⟩ b2).setCell ⟨g, 3, none⟩ b3).setCell ⟨g, 4, none⟩ b4).setCell ⟨g, 5, none⟩ b5).setCell ⟨g, 6, none⟩ b6).setCell ⟨g, 7, none⟩ b7).setCell ⟨g, 8, none⟩ b8).setCell ⟨g, 9, none⟩ b9) := ((((((((((h.setCell hg _).setCell hg _).setCell hg _).setCell hg _).setCell hg _).setCell hg _).setCell hg _).setCell hg _).setCell hg _).setCell hg _)
theorem zero_cells {w : World} {g : Nat} {t : TypeId} (h : Blk w g t zero10) : w.cell? ⟨g, 0, none⟩ = some (.int .i64 0) ∧ w.cell? ⟨g, 1, none⟩ = some (.int .i64 0) ∧ w.cell? ⟨g, 2, none⟩ = some (.int .i64 0) ∧ w.cell? ⟨g, 3, none⟩ = some (.int .i64 0) ∧ w.cell? ⟨g, 4, none⟩ = some (.int .i64 0) ∧ w.cell? ⟨g, 5, none⟩ = some (.int .i64 0) ∧ w.cell? ⟨g, 6, none⟩ = some (.int .i64 0) ∧ w.cell? ⟨g, 7, none⟩ = some (.int .i64 0) ∧ w.cell? ⟨g, 8, none⟩ = some (.int .i64 0) ∧ w.cell? ⟨g, 9, none⟩ = some (.int .i64 0) :=
  ⟨h.cell 0, h.cell 1, h.cell 2, h.cell 3, h.cell 4, h.cell 5, h.cell 6, h.cell 7, h.cell 8, h.cell 9⟩
end Go.Proofs.YthehchdonmmpaaaGreatDoor.St
