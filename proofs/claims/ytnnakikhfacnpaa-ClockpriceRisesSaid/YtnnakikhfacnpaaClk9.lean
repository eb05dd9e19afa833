/- The law on Next: prices rise exactly for the products with excess demand. -/
import Derived.Test.YtnnakikhfacnpaaClk8
namespace Go.Proofs.Ytnnakikhfacnpaa
open Go.ChangeShapes Go.WideShapes Go.ChangeAt Go.RowKit
attribute [local go_sem] later_cell
namespace Clk

/-- Next succeeds -/
def Good (s p u r : Int) (x n : Nat → Int) : Prop := Pol s p u r ∧ valid x ∧ valid (nextP s p x n)

theorem next_good (s p u r : Int) (x n : Nat → Int) (w : World) (h : Good s p u r x n) :
    Calls Try.prog 15 #[.agg #[.int .i64 s, .int .i64 p, .int .i64 u, .int .i64 r], .agg (arr x), .agg (arr n)] w
      fun e w' => e = .returned (.tuple #[.agg (arr (nextP s p x n)), .int .i64 0]) ∧ Below w.heap.size w w' :=
  (next_any s p u r x n w h.1 h.2.1).mono fun _ _ ⟨h1, _, hb⟩ => ⟨h1 h.2.2, hb⟩
theorem next_bad (s p u r : Int) (x n : Nat → Int) (w : World) (h : ¬ Good s p u r x n) :
    Calls Try.prog 15 #[.agg #[.int .i64 s, .int .i64 p, .int .i64 u, .int .i64 r], .agg (arr x), .agg (arr n)] w
      fun e w' => e = .returned (.tuple #[.agg (arr fun _ => 0), .int .i64 4]) ∧ Below w.heap.size w w' := by
  by_cases hp : Pol s p u r
  · by_cases hx : valid x
    · exact (next_any s p u r x n w hp hx).mono fun _ _ ⟨_, h1, hb⟩ => ⟨h1 (fun hv => h ⟨hp, hx, hv⟩), hb⟩
    · exact next_inv s p u r x n w hp hx
  · exact next_pol s p u r x n w hp
theorem refNext_good (s p u r : Int) (x n : Nat → Int) (w : World) (h : Good s p u r x n) :
    Calls Try.prog 16 #[.agg #[.int .i64 s, .int .i64 p, .int .i64 u, .int .i64 r], .agg (arr x), .agg (arr n)] w
      fun e w' => e = .returned (.tuple #[.agg (arr (nextP s p x n)), .int .i64 0]) ∧ Below w.heap.size w w' :=
  (refNext_any s p u r x n w h.1 h.2.1).mono fun _ _ ⟨h1, _, hb⟩ => ⟨h1 h.2.2, hb⟩
theorem refNext_bad (s p u r : Int) (x n : Nat → Int) (w : World) (h : ¬ Good s p u r x n) :
    Calls Try.prog 16 #[.agg #[.int .i64 s, .int .i64 p, .int .i64 u, .int .i64 r], .agg (arr x), .agg (arr n)] w
      fun e w' => e = .returned (.tuple #[.agg (arr fun _ => 0), .int .i64 4]) ∧ Below w.heap.size w w' := by
  by_cases hp : Pol s p u r
  · by_cases hx : valid x
    · exact (refNext_any s p u r x n w hp hx).mono fun _ _ ⟨_, h1, hb⟩ => ⟨h1 (fun hv => h ⟨hp, hx, hv⟩), hb⟩
    · exact refNext_inv s p u r x n w hp hx
  · exact refNext_pol s p u r x n w hp

structure LMid (w wx : World) (s p u r : Int) (x n q : Nat → Int) (a : Nat) : Prop where
  t : TMid w wx s p u r x n
  q : Box wx a q
theorem LMid.later {w wx w2 : World} {s p u r : Int} {x n q : Nat → Int} {a : Nat} (h : LMid w wx s p u r x n q a) (hb : Below wx.heap.size wx w2) : LMid w w2 s p u r x n q a :=
  ⟨h.t.later hb, h.q.below hb h.q.lt⟩
theorem LMid.drewN {w wx : World} {s p u r : Int} {x n q : Nat → Int} {a : Nat} (h : LMid w wx s p u r x n q a) (k : Nat) : LMid w (wx.drewN k) s p u r x n q a :=
  h.later ⟨rfl, rfl, rfl, Nat.le_refl _, fun _ _ => rfl⟩
theorem LMid.alloc {w wx : World} {s p u r : Int} {x n q : Nat → Int} {a : Nat} (h : LMid w wx s p u r x n q a) (o : Obj) : LMid w (wx.alloc o) s p u r x n q a :=
  h.later (below_new _ _)

set_option maxHeartbeats 1600000 in
theorem law_rises_good (s p u r : Int) (x n : Nat → Int) (w : World) (h : Good s p u r x n) :
    Calls Try.prog 3 #[.agg #[.int .i64 s, .int .i64 p, .int .i64 u, .int .i64 r], .agg (arr x), .agg (arr n)] w fun e w' => e = .returned (.bool true) ∧ Below w.heap.size w w' := by
  have R0 := Lib.hid (tmid_new w s p u r x n 23 25 27)
  have H := Lib.hid h
  have HE := Lib.hid (show ∀ w, (Op.equalIn 10000 25 (.agg (arr (nextP s p x n))) (.agg (arr (nextP s p x n)))).run Try.prog w = .ok true w from fun w => by rw [eq25, (eq6_iff _ _).2 (fun _ _ => rfl)])
  have N1 := Lib.hid (fun w => next_good s p u r x n w h)
  have N2 := Lib.hid (fun w => refNext_good s p u r x n w h)
  clear h
  unfold arr at HE N1 N2 ⊢
  go_enter Try.func3, Try.ntmps3
  go_wp2_with fail
  refine (N1.out _).mono ?_
  rintro e w1 ⟨rfl, b1⟩
  have R1 := R0.out.later b1
  clear b1 R0
  obtain ⟨P0, P1, P2, P3⟩ := R1.pol.cells
  obtain ⟨F0, F1, F2, F3, F4, F5⟩ := R1.fr.cells
  obtain ⟨T0, T1, T2, T3, T4, T5⟩ := R1.tb.cells
  have z1 := R1.tb.lt
  have n0 : w.heap.size < w1.heap.size := by omega
  have n1 : w.heap.size + 1 < w1.heap.size := by omega
  have n2 : w.heap.size + 1 + 1 < w1.heap.size := by omega
  go_wp2_with fail
  refine (N2.out _).mono ?_
  rintro e w2 ⟨rfl, b2⟩
  have L2 : LMid w w2 s p u r x n (nextP s p x n) w1.heap.size := LMid.later ⟨R1.later (below_new _ _), box_new w1 _ _⟩ b2
  clear b2 R1 P0 P1 P2 P3 F0 F1 F2 F3 F4 F5 T0 T1 T2 T3 T4 T5 z1 n0 n1 n2
  generalize w1.heap.size = a at *
  obtain ⟨Q0, Q1, Q2, Q3, Q4, Q5⟩ := L2.q.cells
  have z1 := L2.q.lt
  have he := HE.out
  go_wp2_with fail
  have L3 := L2.alloc (.cells (arr (nextP s p x n)) 25)
  clear he L2 Q0 Q1 Q2 Q3 Q4 Q5 z1
  go_loopw [11] (fun i wr => ∃ k : Nat, k ≤ 6 ∧ i = .int .i64 k ∧ LMid w wr s p u r x n (nextP s p x n) a) (fun i _ => 6 - (intOf i).toNat)
  case atStart => exact ⟨0, by omega, rfl, L3⟩
  case round =>
    obtain ⟨k, hk, rfl, R⟩ := hrel
    clear L3
    by_cases hlt : k < 6
    · have fk := R.t.fr.cell k hlt
      have tk := R.t.tb.cell k hlt
      have qk := R.q.cell k hlt
      obtain ⟨P0, P1, P2, P3⟩ := R.t.pol.cells
      have hd6 : decide ((k : Int) < 6) = true := by simp; omega
      have hx := H.out.2.1 k hlt
      have hp := H.out.1
      have hu := up_gt hp.s0 hp.p0 hx.1
      have hup : x k + s ≤ up s p (x k) := by
        have := mul_bd hx.1 hx.2 hp.p0 hp.p1
        unfold up; omega
      obtain ⟨s0, s1, _, _, _, _, _, _⟩ := hp
      by_cases hn : 0 < n k
      · have eq : nextP s p x n k = up s p (x k) := by unfold nextP; rw [if_pos hn]
        rw [eq] at qk
        have d1 : decide (x k < up s p (x k)) = true := by simp; omega
        have d2 : decide (up s p (x k) < x k + s) = false := by simp; omega
        obtain ⟨x0, x1⟩ := hx
        clear hu hup eq
        go_wp2_with fail
        go_quiet (fail)
        go_wp2_with fail
        go_roundw
        case rel => exact ⟨k + 1, by omega, by go_num, R.drewN nq⟩
        case measure => simp [intOf]; omega
      · have eq : nextP s p x n k = x k := by unfold nextP; rw [if_neg hn]
        rw [eq] at qk
        have d0 : decide (0 < n k) = false := by simp; omega
        have d1 : decide (x k < x k) = false := by simp
        clear hu hup eq hx
        go_wp2_with fail
        go_quiet (fail)
        go_wp2_with fail
        go_roundw
        case rel => exact ⟨k + 1, by omega, by go_num, R.drewN nq⟩
        case measure => simp [intOf]; omega
    · go_wp2_with fail
      refine (awake_any _).mono ?_
      rintro e w5 ⟨rfl, b5⟩
      have B := Lib.hid (chain0 R.t.bel b5)
      go_wp2_with fail
      go_ret
      exact ⟨rfl, B.out⟩

set_option maxHeartbeats 1600000 in
theorem law_rises_bad (s p u r : Int) (x n : Nat → Int) (w : World) (h : ¬ Good s p u r x n) :
    Calls Try.prog 3 #[.agg #[.int .i64 s, .int .i64 p, .int .i64 u, .int .i64 r], .agg (arr x), .agg (arr n)] w fun e w' => e = .returned (.bool true) ∧ Below w.heap.size w w' := by
  have R0 := Lib.hid (tmid_new w s p u r x n 23 25 27)
  have H := Lib.hid h
  have HE := Lib.hid (show ∀ w, (Op.equalIn 10000 25 (.agg (arr (fun _ => 0))) (.agg (arr (fun _ => 0)))).run Try.prog w = .ok true w from fun w => by rw [eq25, (eq6_iff _ _).2 (fun _ _ => rfl)])
  have N1 := Lib.hid (fun w => next_bad s p u r x n w h)
  have N2 := Lib.hid (fun w => refNext_bad s p u r x n w h)
  clear h
  unfold arr at HE N1 N2 ⊢
  go_enter Try.func3, Try.ntmps3
  go_wp2_with fail
  refine (N1.out _).mono ?_
  rintro e w1 ⟨rfl, b1⟩
  have R1 := R0.out.later b1
  clear b1 R0
  obtain ⟨P0, P1, P2, P3⟩ := R1.pol.cells
  obtain ⟨F0, F1, F2, F3, F4, F5⟩ := R1.fr.cells
  obtain ⟨T0, T1, T2, T3, T4, T5⟩ := R1.tb.cells
  have z1 := R1.tb.lt
  have n0 : w.heap.size < w1.heap.size := by omega
  have n1 : w.heap.size + 1 < w1.heap.size := by omega
  have n2 : w.heap.size + 1 + 1 < w1.heap.size := by omega
  go_wp2_with fail
  refine (N2.out _).mono ?_
  rintro e w2 ⟨rfl, b2⟩
  have L2 : LMid w w2 s p u r x n (fun _ => 0) w1.heap.size := LMid.later ⟨R1.later (below_new _ _), box_new w1 (fun _ => 0) _⟩ b2
  clear b2 R1 P0 P1 P2 P3 F0 F1 F2 F3 F4 F5 T0 T1 T2 T3 T4 T5 z1 n0 n1 n2
  generalize w1.heap.size = a at *
  obtain ⟨Q0, Q1, Q2, Q3, Q4, Q5⟩ := L2.q.cells
  have z1 := L2.q.lt
  have he := HE.out
  go_wp2_with fail
  have L3 := L2.alloc (.cells (arr (fun _ => 0)) 25)
  clear he L2 Q0 Q1 Q2 Q3 Q4 Q5 z1
  go_loopw [11] (fun i wr => ∃ k : Nat, k ≤ 6 ∧ i = .int .i64 k ∧ LMid w wr s p u r x n (fun _ => 0) a) (fun i _ => 6 - (intOf i).toNat)
  case atStart => exact ⟨0, by omega, rfl, L3⟩
  case round =>
    obtain ⟨k, hk, rfl, R⟩ := hrel
    clear L3
    by_cases hlt : k < 6
    · have hd6 : decide ((k : Int) < 6) = true := by simp; omega
      go_wp2_with fail
      go_quiet (fail)
      go_wp2_with fail
      go_roundw
      case rel => exact ⟨k + 1, by omega, by go_num, R.drewN nq⟩
      case measure => simp [intOf]; omega
    · go_wp2_with fail
      refine (awake_any _).mono ?_
      rintro e w5 ⟨rfl, b5⟩
      have B := Lib.hid (chain0 R.t.bel b5)
      go_wp2_with fail
      go_ret
      exact ⟨rfl, B.out⟩

theorem law_rises (s p u r : Int) (x n : Nat → Int) (w : World) :
    Calls Try.prog 3 #[.agg #[.int .i64 s, .int .i64 p, .int .i64 u, .int .i64 r], .agg (arr x), .agg (arr n)] w fun e w' => e = .returned (.bool true) ∧ Below w.heap.size w w' := by
  by_cases h : Good s p u r x n
  · exact law_rises_good s p u r x n w h
  · exact law_rises_bad s p u r x n w h

end Clk
end Go.Proofs.Ytnnakikhfacnpaa
