/- The reference's comparison of two fractions that are none below, and what a ceiling has to do with it. -/
import Derived.Test.YthehchdonmmpaaaGreatDoorStT
import Derived.Test.YthehchdonmmpaaaGreatDoorPs17
namespace Go.Proofs.YthehchdonmmpaaaGreatDoor.St
open Go.ChangeShapes Go.WideShapes Go.ChangeAt Go.RowKit Gn Cat Lex Pr Ros Fr
set_option linter.unusedVariables false
set_option linter.unusedSimpArgs false
theorem len_zero {n : Nat} : (digs n).length = 0 ↔ n = 0 := by rw [List.length_eq_zero_iff, digs_nil_iff]
theorem red_zero {a b : Nat} (hb : b ≠ 0) : a / Nat.gcd a b = 0 ↔ a = 0 := by
  have g0 : 0 < Nat.gcd a b := Nat.gcd_pos_of_pos_right _ (Nat.pos_of_ne_zero hb)
  obtain ⟨x, hx⟩ := Nat.gcd_dvd_left a b
  constructor
  · intro h
    have h2 : a < Nat.gcd a b := by
      have := (Nat.div_eq_zero_iff_lt g0).1 h
      exact this
    cases x with
    | zero => rw [Nat.mul_zero] at hx; exact hx
    | succ k => rw [Nat.mul_succ] at hx; omega
  · intro h; rw [h]; exact Nat.zero_div _
theorem sign_is {n : Nat} : (0 < signI false (digs n).length ↔ n ≠ 0) ∧ ¬ (signI false (digs n).length < 0) := by
  unfold signI
  have := len_zero (n := n)
  rw [if_neg (by decide)]
  by_cases h : n = 0
  · rw [if_pos (this.2 h)]
    exact ⟨⟨fun h2 => absurd h2 (by decide), fun h2 => absurd h h2⟩, by decide⟩
  · rw [if_neg (fun h2 => h (this.1 h2))]
    exact ⟨⟨fun _ => h, fun _ => by decide⟩, by decide⟩
/-- what a comparison returns -/
abbrev CmpP (a b : Nat) (w : World) (e : Ending) (w' : World) : Prop := ∃ s : Int, e = .returned (.int .i64 s) ∧ (0 < s ↔ b < a) ∧ (s < 0 ↔ a < b) ∧ Below w.heap.size w w'
theorem rcmp_pos (A1 A2 A3 A4 : Option Addr) (c1 c2 c3 c4 n1 d1 n2 d2 : Nat) (w : World) (l1 : (digs n1).length ≤ 1000) (l2 : (digs d1).length ≤ 1000) (l3 : (digs n2).length ≤ 1000) (l4 : (digs d2).length ≤ 1000) (e1 : d1 ≠ 0) (e2 : d2 ≠ 0)
    (h1 : NS w (.slice A1 (digs n1).length c1) (digs n1)) (h2 : NS w (.slice A2 (digs d1).length c2) (digs d1)) (h3 : NS w (.slice A3 (digs n2).length c3) (digs n2)) (h4 : NS w (.slice A4 (digs d2).length c4) (digs d2)) :
    Calls Tryz.prog 21 #[.agg #[.bool false, .slice A1 (digs n1).length c1, .slice A2 (digs d1).length c2], .agg #[.bool false, .slice A3 (digs n2).length c3, .slice A4 (digs d2).length c4]] w (CmpP (n1 * d2) (n2 * d1) w) := by
  have hd : d1 * d2 ≠ 0 := Nat.mul_ne_zero e1 e2
  by_cases h0 : n2 = 0
  · refine (fcmp_any false false A1 A2 A3 A4 c1 c2 c3 c4 n1 d1 n2 d2 w _ false _ _ (by rw [h0]; rfl) h3 h4 fun A5 A6 c5 c6 w' b q1 q2 => fadd_same false false A1 A2 A5 A6 c1 c2 c5 c6 n1 d1 n2 d2 w' l1 l2 l3 l4 e1 e2 rfl (h1.keep b) (h2.keep b) q1 q2).mono ?_
    rintro e w' ⟨rfl, b⟩
    rw [Bool.false_and]
    obtain ⟨s1, s2⟩ := sign_is (n := (n1 * d2 + n2 * d1) / Nat.gcd (n1 * d2 + n2 * d1) (d1 * d2))
    have hr := red_zero (a := n1 * d2 + n2 * d1) hd
    have hz : n2 * d1 = 0 := by rw [h0, Nat.zero_mul]
    refine ⟨_, rfl, ?_, ?_, b⟩
    · rw [s1]; omega
    · constructor
      · intro h; exact absurd h s2
      · intro h; omega
  · by_cases hc : n2 * d1 ≤ n1 * d2
    · refine (fcmp_any false false A1 A2 A3 A4 c1 c2 c3 c4 n1 d1 n2 d2 w _ true _ _ (by simp [h0]) h3 h4 fun A5 A6 c5 c6 w' b q1 q2 => fadd_yes false true A1 A2 A5 A6 c1 c2 c5 c6 n1 d1 n2 d2 w' l1 l2 l3 l4 e1 e2 (by decide) hc (h1.keep b) (h2.keep b) q1 q2).mono ?_
      rintro e w' ⟨rfl, b⟩
      rw [Bool.false_and]
      obtain ⟨s1, s2⟩ := sign_is (n := (n1 * d2 - n2 * d1) / Nat.gcd (n1 * d2 - n2 * d1) (d1 * d2))
      have hr := red_zero (a := n1 * d2 - n2 * d1) hd
      refine ⟨_, rfl, ?_, ?_, b⟩
      · rw [s1]; omega
      · constructor
        · intro h; exact absurd h s2
        · intro h; omega
    · refine (fcmp_any false false A1 A2 A3 A4 c1 c2 c3 c4 n1 d1 n2 d2 w _ true _ _ (by simp [h0]) h3 h4 fun A5 A6 c5 c6 w' b q1 q2 => fadd_no false true A1 A2 A5 A6 c1 c2 c5 c6 n1 d1 n2 d2 w' l1 l2 l3 l4 e1 e2 (by decide) (by omega) (h1.keep b) (h2.keep b) q1 q2).mono ?_
      rintro e w' ⟨rfl, b⟩
      have h2' : n2 * d1 - n1 * d2 ≠ 0 := by omega
      rw [show (true && decide (n2 * d1 - n1 * d2 ≠ 0)) = true by simp only [Bool.true_and, decide_eq_true_eq]; exact h2']
      have e : signI true (digs ((n2 * d1 - n1 * d2) / Nat.gcd (n2 * d1 - n1 * d2) (d1 * d2))).length = -1 := rfl
      rw [e]
      refine ⟨_, rfl, ?_, ?_, b⟩
      · constructor
        · intro h; exact absurd h (by decide)
        · intro h; omega
      · constructor
        · intro _; omega
        · intro _; decide
/-- a fraction is above a number iff its ceiling is -/
theorem ceil_above {n d m : Nat} (hd : d ≠ 0) : m * d < n ↔ m < ceilN n d := by
  obtain ⟨h1, h2, h3⟩ := ceil_facts (n := n) hd
  constructor
  · intro h
    have h4 : m * d < ceilN n d * d := Nat.lt_of_lt_of_le h h1
    exact Nat.lt_of_mul_lt_mul_right h4
  · intro h
    have hn : n ≠ 0 := fun e => by rw [h3 e] at h; omega
    obtain ⟨h4, h5⟩ := h2 hn
    exact Nat.lt_of_le_of_lt (Nat.mul_le_mul_right d (show m ≤ ceilN n d - 1 by omega)) h5
theorem floor_ceil {n d : Nat} (hd : d ≠ 0) : n / d ≤ ceilN n d := by
  obtain ⟨h1, _, _⟩ := ceil_facts (n := n) hd
  have h2 := Nat.div_le_div_right (c := d) h1
  rw [Nat.mul_div_cancel _ (Nat.pos_of_ne_zero hd)] at h2
  exact h2
end Go.Proofs.YthehchdonmmpaaaGreatDoor.St
