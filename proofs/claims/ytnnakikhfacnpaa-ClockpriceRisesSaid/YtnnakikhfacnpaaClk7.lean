/- The examples of the chapter clockprice. -/
import Derived.Test.YtnnakikhfacnpaaClk6
import Derived.Test.YtnnakikhfacnpaaBase
namespace Go.Proofs.Ytnnakikhfacnpaa
open Go.ChangeShapes Go.WideShapes Go.ChangeAt Go.RowKit
attribute [local go_sem] later_cell
namespace Clk

def v2 (a b : Int) : Nat → Int
  | 0 => a
  | 1 => b
  | _ => 0

theorem policy_any (w : World) : Calls Try.prog 46 #[] w fun e w' => e = .returned (.agg #[.int .i64 2, .int .i64 10, .int .i64 1, .int .i64 1]) ∧ Below w.heap.size w w' := by
  go_enter Try.func46, Try.ntmps46
  go_wp2
  go_returns
  exact ⟨rfl, by go_grown⟩

theorem pol2 : Pol 2 10 1 1 := by constructor <;> decide

theorem aw_next1 (w : World) : Calls Try.prog 15 #[.agg #[.int .i64 2, .int .i64 10, .int .i64 1, .int .i64 1], .agg #[.int .i64 15, .int .i64 3, .int .i64 0, .int .i64 0, .int .i64 0, .int .i64 0], .agg #[.int .i64 1, .int .i64 0, .int .i64 0, .int .i64 0, .int .i64 0, .int .i64 0]] w
    fun e w' => e = .returned (.tuple #[.agg #[.int .i64 19, .int .i64 3, .int .i64 0, .int .i64 0, .int .i64 0, .int .i64 0], .int .i64 0]) ∧ Below w.heap.size w w' := by
  refine (next_any 2 10 1 1 (v2 15 3) (v2 1 0) w pol2 (by unfold valid; decide)).mono ?_
  rintro e w' ⟨h1, _, hb⟩
  exact ⟨h1 (by unfold valid; decide), hb⟩
theorem aw_next2 (w : World) : Calls Try.prog 15 #[.agg #[.int .i64 2, .int .i64 10, .int .i64 1, .int .i64 1], .agg #[.int .i64 1000000, .int .i64 0, .int .i64 0, .int .i64 0, .int .i64 0, .int .i64 0], .agg #[.int .i64 1, .int .i64 0, .int .i64 0, .int .i64 0, .int .i64 0, .int .i64 0]] w
    fun e w' => e = .returned (.tuple #[.agg #[.int .i64 0, .int .i64 0, .int .i64 0, .int .i64 0, .int .i64 0, .int .i64 0], .int .i64 4]) ∧ Below w.heap.size w w' := by
  refine (next_any 2 10 1 1 (v2 1000000 0) (v2 1 0) w pol2 (by unfold valid; decide)).mono ?_
  rintro e w' ⟨_, h1, hb⟩
  exact ⟨h1 (by unfold valid; decide), hb⟩
theorem aw_next3 (w : World) : Calls Try.prog 15 #[.agg #[.int .i64 2, .int .i64 10, .int .i64 1, .int .i64 1], .agg #[.int .i64 (-1), .int .i64 0, .int .i64 0, .int .i64 0, .int .i64 0, .int .i64 0], .agg #[.int .i64 0, .int .i64 0, .int .i64 0, .int .i64 0, .int .i64 0, .int .i64 0]] w
    fun e w' => e = .returned (.tuple #[.agg #[.int .i64 0, .int .i64 0, .int .i64 0, .int .i64 0, .int .i64 0, .int .i64 0], .int .i64 4]) ∧ Below w.heap.size w w' :=
  next_inv 2 10 1 1 (v2 (-1) 0) (v2 0 0) w pol2 (by unfold valid; decide)
theorem aw_ticks (w : World) : Calls Try.prog 22 #[.agg #[.int .i64 2, .int .i64 10, .int .i64 1, .int .i64 1], .agg #[.int .i64 15, .int .i64 0, .int .i64 0, .int .i64 0, .int .i64 0, .int .i64 0], .agg #[.int .i64 20, .int .i64 0, .int .i64 0, .int .i64 0, .int .i64 0, .int .i64 0]] w
    fun e w' => e = .returned (.int .i64 2) ∧ Below w.heap.size w w' :=
  ticks_any 2 10 1 1 (v2 15 0) (v2 20 0) w pol2 (by unfold valid; decide) (by unfold valid; decide)
theorem aw_check1 (w : World) : Calls Try.prog 18 #[.agg #[.int .i64 2, .int .i64 10, .int .i64 1, .int .i64 1]] w
    fun e w' => e = .returned (.int .i64 0) ∧ Below w.heap.size w w' := check_yes 2 10 1 1 w pol2
theorem aw_check2 (w : World) : Calls Try.prog 18 #[.agg #[.int .i64 0, .int .i64 0, .int .i64 0, .int .i64 0]] w
    fun e w' => e = .returned (.int .i64 4) ∧ Below w.heap.size w w' := check_no 0 0 0 0 w (fun h => by have := h.s0; omega)
theorem aw_start (b : Nat) (w : World) (h0 : ProdAt w b 0 ByteArray.empty 0 3 0 0) (h1 : ProdAt w b 5 ByteArray.empty 0 4 0 0) :
    Calls Try.prog 20 #[.slice (some ⟨b, 0, none⟩) 2 2] w
    fun e w' => e = .returned (.agg #[.int .i64 3, .int .i64 4, .int .i64 0, .int .i64 0, .int .i64 0, .int .i64 0]) ∧ Below w.heap.size w w' :=
  start_lt b 0 2 2 (fun _ => ByteArray.empty) (fun _ => 0) (v2 3 4) (fun _ => 0) (fun _ => 0) w (by omega) (by omega) (by decide) (by omega) (by
    intro i hi
    obtain rfl | rfl : i = 0 ∨ i = 1 := by omega
    · exact h0
    · exact h1)

set_option maxHeartbeats 800000 in
theorem awake_any (w : World) : Calls Try.prog 17 #[] w fun e w' => e = .returned (.bool true) ∧ Below w.heap.size w w' := by
  have q1 : ∀ w, (Op.equalIn 10000 25 (.agg #[.int .i64 19, .int .i64 3, .int .i64 0, .int .i64 0, .int .i64 0, .int .i64 0]) (.agg #[.int .i64 19, .int .i64 3, .int .i64 0, .int .i64 0, .int .i64 0, .int .i64 0])).run Try.prog w = .ok true w := eq25 (v2 19 3) (v2 19 3)
  have q2 : ∀ w, (Op.equalIn 10000 25 (.agg #[.int .i64 3, .int .i64 4, .int .i64 0, .int .i64 0, .int .i64 0, .int .i64 0]) (.agg #[.int .i64 3, .int .i64 4, .int .i64 0, .int .i64 0, .int .i64 0, .int .i64 0])).run Try.prog w = .ok true w := eq25 (v2 3 4) (v2 3 4)
  go_enter Try.func17, Try.ntmps17
  go_wp2_with fail
  refine (policy_any _).mono ?_
  rintro e w1 ⟨rfl, b1⟩
  go_wp2_with fail
  refine (aw_next1 _).mono ?_
  rintro e w2 ⟨rfl, b2⟩
  have B2 := Lib.hid (chain0 b1 b2)
  clear b1 b2
  go_wp2_with fail
  refine (policy_any _).mono ?_
  rintro e w3 ⟨rfl, b3⟩
  have X3 := (box_new w2 (v2 19 3) 25).below b3 (by go_size)
  have B3 := Lib.hid (chain1 B2.out b3)
  clear b3 B2
  generalize w2.heap.size = a1 at *
  go_wp2_with fail
  refine (aw_next2 _).mono ?_
  rintro e w4 ⟨rfl, b4⟩
  have X4 := X3.below b4 X3.lt
  have B4 := Lib.hid (chain0 B3.out b4)
  clear b4 B3 X3
  go_wp2_with fail
  refine (policy_any _).mono ?_
  rintro e w5 ⟨rfl, b5⟩
  have X5 := (X4.alloc _).below b5 (by have := X4.lt; simp; omega)
  have B5 := Lib.hid (chain1 B4.out b5)
  clear b5 B4 X4
  generalize w4.heap.size = a2 at *
  go_wp2_with fail
  refine (aw_next3 _).mono ?_
  rintro e w6 ⟨rfl, b6⟩
  have X6 := X5.below b6 X5.lt
  have B6 := Lib.hid (chain0 B5.out b6)
  clear b6 B5 X5
  go_wp2_with fail
  refine (aw_start _ _ ⟨by simp [go_sem]; rfl, by simp [go_sem], by simp [go_sem], by simp [go_sem], by simp [go_sem]⟩ ⟨by simp [go_sem]; rfl, by simp [go_sem], by simp [go_sem], by simp [go_sem], by simp [go_sem]⟩).mono ?_
  rintro e w7 ⟨rfl, b7⟩
  have X7 := ((X6.alloc _).alloc _).below b7 (by have := X6.lt; simp; omega)
  have B7 := Lib.hid (chain2 B6.out b7)
  clear b7 B6 X6
  generalize w6.heap.size = a3 at *
  obtain ⟨P0, P1, P2, P3, P4, P5⟩ := X7.cells
  have hx := X7.lt
  have n1 : ¬ a1 = w7.heap.size := by omega
  simp only [v2] at P0 P1 P2 P3 P4 P5
  go_wp2_with fail
  refine (policy_any _).mono ?_
  rintro e w8 ⟨rfl, b8⟩
  have B8 := Lib.hid (chain1 B7.out b8)
  clear b8 B7 P0 P1 P2 P3 P4 P5 X7 hx n1
  go_wp2_with fail
  refine (aw_ticks _).mono ?_
  rintro e w9 ⟨rfl, b9⟩
  have B9 := Lib.hid (chain0 B8.out b9)
  clear b9 B8
  go_wp2_with fail
  refine (policy_any _).mono ?_
  rintro e w10 ⟨rfl, b10⟩
  have B10 := Lib.hid (chain0 B9.out b10)
  clear b10 B9
  go_wp2_with fail
  refine (aw_check1 _).mono ?_
  rintro e w11 ⟨rfl, b11⟩
  have B11 := Lib.hid (chain0 B10.out b11)
  clear b11 B10
  go_wp2_with fail
  refine (aw_check2 _).mono ?_
  rintro e w12 ⟨rfl, b12⟩
  have B12 := Lib.hid (chain0 B11.out b12)
  clear b12 B11
  go_wp2_with fail
  go_ret
  exact ⟨rfl, B12.out⟩

theorem law_checks (s p u r : Int) (w : World) :
    Calls Try.prog 4 #[.agg #[.int .i64 s, .int .i64 p, .int .i64 u, .int .i64 r]] w fun e w' => e = .returned (.bool true) ∧ Below w.heap.size w w' := by
  have hp := (pol_new w s p u r 23).cells
  have hb := below_new w (.cells #[.int .i64 s, .int .i64 p, .int .i64 u, .int .i64 r] 23)
  by_cases h : Pol s p u r
  all_goals
    have H := Lib.hid h
    clear h
    go_enter Try.func4, Try.ntmps4
    go_wp2_with fail
    generalize w.alloc (.cells #[.int .i64 s, .int .i64 p, .int .i64 u, .int .i64 r] 23) = w1 at *
    obtain ⟨P0, P1, P2, P3⟩ := hp
    refine wp_region_later (by kernel_rfl) (by kernel_rfl) ?_
    repeat (quiet_step (first
      | (go_at_call 18; exact calls_later (check_yes s p u r _ H.out))
      | (go_at_call 18; exact calls_later (check_no s p u r _ H.out))
      | (go_at_call 19; exact calls_later (refCheck_yes s p u r _ H.out))
      | (go_at_call 19; exact calls_later (refCheck_no s p u r _ H.out))
      | (go_at_call 17; exact calls_later (awake_any _))))
    refine wpQuiet_nil ?_
    rintro _ ⟨x, rfl⟩
    go_wp2
    go_ret
    exact ⟨rfl, chain0 hb (later_below _ _)⟩

end Clk
end Go.Proofs.Ytnnakikhfacnpaa
