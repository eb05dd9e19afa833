/- Plain: what Valid says of a fraction, exactly. -/
import Derived.Test.YthehchdonmmpaaaGreatDoorPs15
namespace Go.Proofs.YthehchdonmmpaaaGreatDoor
open Go.ChangeShapes Go.WideShapes Go.ChangeAt Go.RowKit
set_option linter.unusedVariables false
set_option linter.unusedSimpArgs false
namespace Fr
/-- a valid fraction -/
def validF (neg : Bool) (l1 l2 : List Nat) : Bool := decide (l1 = digs (nat l1)) && (decide (l2 = digs (nat l2)) && (decide (l2.length ≠ 0) && (!(neg && decide (l1.length = 0)) && (Nat.gcd (nat l1) (nat l2) == 1))))
theorem last_digs {l : List Nat} (h : l = digs (nat l)) : l.getLastD 1 ≠ 0 := by
  intro h0
  have := digs_last (nat l)
  rw [← h] at this
  exact this h0
theorem getLast_iff {l : List Nat} (hd : Dg l) : decide (l.getLastD 1 ≠ 0) = decide (l = digs (nat l)) := by
  by_cases h : l.getLastD 1 ≠ 0
  · rw [decide_eq_true h, decide_eq_true (digs_of hd h).symm]
  · rw [decide_eq_false h, decide_eq_false (fun e => h (last_digs e))]
theorem vf1 {neg : Bool} {l1 l2 : List Nat} (h : decide (l1 = digs (nat l1)) = false) : validF neg l1 l2 = false := by unfold validF; rw [h]; rfl
theorem vf2 {neg : Bool} {l1 l2 : List Nat} (h : decide (l2 = digs (nat l2)) = false) : validF neg l1 l2 = false := by unfold validF; rw [h]; simp
theorem vf3 {neg : Bool} {l1 l2 : List Nat} (h : l2.length = 0) : validF neg l1 l2 = false := by unfold validF; simp [h]
theorem vf4 {l1 l2 : List Nat} (h : l1.length = 0) : validF true l1 l2 = false := by unfold validF; simp [h]
theorem vf5 {neg : Bool} {l1 l2 : List Nat} (h1 : decide (l1 = digs (nat l1)) = true) (h2 : decide (l2 = digs (nat l2)) = true) (h3 : l2.length ≠ 0) (h4 : (neg && decide (l1.length = 0)) = false) : validF neg l1 l2 = (Nat.gcd (nat l1) (nat l2) == 1) := by
  unfold validF
  rw [h1, h2, decide_eq_true h3, h4]
  simp
theorem trim_full {l : List Nat} (h : Dg l) (e : (digs (nat l)).length = l.length) : l = digs (nat l) := by
  obtain ⟨h1, _⟩ := digs_split h
  rw [e, Nat.sub_self] at h1
  simpa using h1
theorem digs1 : digs 1 = [1] := by decide
theorem len_one {n : Nat} (h : (digs n).length = 1) : (((dg (digs n) 0 : Nat) : Int) == 1) = (n == 1) := by
  have := digs_one h
  by_cases e : n = 1
  · rw [beq_iff_eq.2 e, beq_iff_eq]; omega
  · rw [beq_eq_false_iff_ne.2 e, beq_eq_false_iff_ne]; omega
theorem len_not {n : Nat} (h : (digs n).length ≠ 1) : (n == 1) = false := by
  rw [beq_eq_false_iff_ne]
  rintro rfl
  exact h (by rw [digs1]; rfl)
theorem cmp_one (g : Nat) : (cmp g 1 == 0) = (g == 1) := by
  unfold cmp
  by_cases h : g < 1
  · rw [if_pos h, beq_eq_false_iff_ne.2 (show g ≠ 1 by omega)]; rfl
  · rw [if_neg h]
    by_cases h2 : 1 < g
    · rw [if_pos h2, beq_eq_false_iff_ne.2 (show g ≠ 1 by omega)]; rfl
    · rw [if_neg h2, beq_iff_eq.2 (show g = 1 by omega)]; rfl
end Fr
end Go.Proofs.YthehchdonmmpaaaGreatDoor
