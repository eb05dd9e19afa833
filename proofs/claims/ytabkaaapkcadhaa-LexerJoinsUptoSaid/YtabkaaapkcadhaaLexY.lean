/- The law on scanners: its parts. -/
import Derived.Test.YtabkaaapkcadhaaLexX
import Derived.Deep.RegionLaw
import Derived.Deep.RegionHeld3
namespace Go.Proofs.Ytabkaaapkcadhaa
open Go.ChangeShapes Go.WideShapes Go.ChangeAt Go.RowKit
namespace Lex
theorem Scan.drewN {ts te : TypeId} {w : World} {g : Nat} {L : List Tok} {e : Int} (h : Scan ts te w g L e) (n : Nat) : Scan ts te (w.drewN n) g L e := h.below (drewN_below w n)
theorem Scan.drew {ts te : TypeId} {w : World} {g : Nat} {L : List Tok} {e : Int} (h : Scan ts te w g L e) : Scan ts te w.drew g L e := h.below ((Below.refl _ _).drew)
theorem nextL_len (L : List Tok) (e : Int) : (nextL L e).length ≤ L.length := by
  unfold nextL
  split
  · simp
  · exact Nat.le_refl _
theorem expL_len (L : List Tok) (e : Int) (m : ByteArray) : (expL L e m).length ≤ L.length := by
  unfold expL
  split
  · exact nextL_len L e
  · exact Nat.le_refl _
theorem nameL_len (L : List Tok) (e : Int) : (nameL L e).length ≤ L.length := by
  unfold nameL
  split
  · exact nextL_len L e
  · exact Nat.le_refl _
theorem amtL_len (L : List Tok) (e most : Int) : (amtL L e most).length ≤ L.length := by
  unfold amtL
  split
  · exact nextL_len L e
  · exact Nat.le_refl _
/-- a scanner's step: kind, mark, number -/
structure Stp where
  kind : Int
  mark : ByteArray
  n : Int
abbrev Stp.cells (s : Stp) : List Value := [.int .i64 s.kind, .string s.mark, .int .i64 s.n]
def stepCells (l : List Stp) : List Value := l.flatMap Stp.cells
theorem stepCells_at (l : List Stp) (i : Nat) (hi : i < l.length) : (stepCells l)[i * 3]? = some (.int .i64 l[i].kind) ∧ (stepCells l)[i * 3 + 1]? = some (.string l[i].mark) ∧ (stepCells l)[i * 3 + 2]? = some (.int .i64 l[i].n) := by
  induction l generalizing i with
  | nil => simp at hi
  | cons t l ih =>
    cases i with
    | zero => simp [stepCells]
    | succ i =>
      have h := ih i (by simpa using hi)
      have e : ∀ j, (stepCells (t :: l))[(i + 1) * 3 + j]? = (stepCells l)[i * 3 + j]? := by
        intro j
        rw [show (i + 1) * 3 + j = 3 + (i * 3 + j) by omega]
        show (t.cells ++ stepCells l)[3 + (i * 3 + j)]? = _
        rw [List.getElem?_append_right (by simp)]
        simp
      have e0 := e 0
      simp only [Nat.add_zero] at e0
      rw [e0, e 1, e 2]
      exact h
def StepRow (w : World) (b o : Nat) (L : List Stp) : Prop := ∀ j u, (stepCells L)[j]? = some u → w.cell? ⟨b, o + j, none⟩ = some u
theorem StepRow.at_ {w : World} {b o : Nat} {L : List Stp} (h : StepRow w b o L) (k : Nat) (hk : k < L.length) :
    w.cell? ⟨b, o + k * 3, none⟩ = some (.int .i64 L[k].kind) ∧ w.cell? ⟨b, o + k * 3 + 1, none⟩ = some (.string L[k].mark) ∧ w.cell? ⟨b, o + k * 3 + 2, none⟩ = some (.int .i64 L[k].n) := by
  obtain ⟨e0, e1, e2⟩ := stepCells_at L k hk
  exact ⟨h _ _ e0, h _ _ e1, h _ _ e2⟩
end Lex
end Go.Proofs.Ytabkaaapkcadhaa
