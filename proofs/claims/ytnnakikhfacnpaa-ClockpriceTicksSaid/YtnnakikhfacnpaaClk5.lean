/- Contracts of Ticks and the reference's. -/
import Derived.Test.YtnnakikhfacnpaaClk4
namespace Go.Proofs.Ytnnakikhfacnpaa
open Go.ChangeShapes Go.WideShapes Go.ChangeAt Go.RowKit
namespace Clk

structure TMid (w wx : World) (s p u r : Int) (x t : Nat → Int) : Prop where
  pol : PolBox wx w.heap.size s p u r
  fr : Box wx (w.heap.size + 1) x
  tb : Box wx (w.heap.size + 1 + 1) t
  bel : Below w.heap.size w wx
theorem TMid.later {w wx w2 : World} {s p u r : Int} {x t : Nat → Int} (h : TMid w wx s p u r x t) (hb : Below wx.heap.size wx w2) : TMid w w2 s p u r x t :=
  ⟨h.pol.below hb h.pol.lt, h.fr.below hb h.fr.lt, h.tb.below hb h.tb.lt, h.bel.trans (hb.mono h.bel.size)⟩
theorem tmid_new (w : World) (s p u r : Int) (x t : Nat → Int) (T1 T2 T3 : TypeId) : TMid w (((w.alloc (.cells #[.int .i64 s, .int .i64 p, .int .i64 u, .int .i64 r] T1)).alloc (.cells (arr x) T2)).alloc (.cells (arr t) T3)) s p u r x t := by
  refine ⟨((pol_new w s p u r T1).alloc _).alloc _, ?_, ?_, (((Below.refl _ _).alloc (by go_size) _).alloc (by go_size) _).alloc (by go_size) _⟩
  · have := (box_new (w.alloc (.cells #[.int .i64 s, .int .i64 p, .int .i64 u, .int .i64 r] T1)) x T2).alloc (.cells (arr t) T3)
    simpa only [World.size_alloc] using this
  · have := box_new ((w.alloc (.cells #[.int .i64 s, .int .i64 p, .int .i64 u, .int .i64 r] T1)).alloc (.cells (arr x) T2)) t T3
    simpa only [World.size_alloc] using this

theorem ticks_zero (s p u r : Int) (x t : Nat → Int) (w : World) (h : ¬ Pol s p u r ∨ ¬ valid x ∨ ¬ valid t) :
    Calls Try.prog 22 #[.agg #[.int .i64 s, .int .i64 p, .int .i64 u, .int .i64 r], .agg (arr x), .agg (arr t)] w
      fun e w' => e = .returned (.int .i64 0) ∧ Below w.heap.size w w' := by
  have R0 := Lib.hid (tmid_new w s p u r x t 23 25 25)
  have HH := Lib.hid h
  clear h
  unfold arr
  go_enter Try.func22, Try.ntmps22
  go_wp2_with fail
  by_cases hp : Pol s p u r
  · have H := Lib.hid hp
    clear hp
    refine (check_yes s p u r _ H.out).mono ?_
    rintro e w1 ⟨rfl, hb⟩
    have R := R0.out.later hb
    clear hb R0
    obtain ⟨P0, P1, P2, P3, P4, P5⟩ := R.fr.cells
    go_wp2_with fail
    by_cases hx : valid x
    · have HX := Lib.hid hx
      clear hx
      refine (valid_yes x _ HX.out).mono ?_
      rintro e w2 ⟨rfl, hb⟩
      have R2 := R.later hb
      clear hb P0 P1 P2 P3 P4 P5 R
      obtain ⟨P0, P1, P2, P3, P4, P5⟩ := R2.tb.cells
      go_wp2_with fail
      have ht : ¬ valid t := by
        rcases HH.out with h | h | h
        · exact absurd H.out h
        · exact absurd HX.out h
        · exact h
      have HT := Lib.hid ht
      clear ht
      refine (valid_no t _ HT.out).mono ?_
      rintro e w3 ⟨rfl, hb⟩
      have R3 := R2.later hb
      go_wp2_with fail
      go_ret
      exact ⟨rfl, R3.bel⟩
    · have HX := Lib.hid hx
      clear hx
      refine (valid_no x _ HX.out).mono ?_
      rintro e w2 ⟨rfl, hb⟩
      have R2 := R.later hb
      go_wp2_with fail
      go_ret
      exact ⟨rfl, R2.bel⟩
  · have H := Lib.hid hp
    clear hp
    refine (check_no s p u r _ H.out).mono ?_
    rintro e w1 ⟨rfl, hb⟩
    have R := R0.out.later hb
    go_wp2_with fail
    go_ret
    exact ⟨rfl, R.bel⟩

set_option maxHeartbeats 800000 in
theorem ticks_any (s p u r : Int) (x t : Nat → Int) (w : World) (hp : Pol s p u r) (hx : valid x) (ht : valid t) :
    Calls Try.prog 22 #[.agg #[.int .i64 s, .int .i64 p, .int .i64 u, .int .i64 r], .agg (arr x), .agg (arr t)] w
      fun e w' => e = .returned (.int .i64 (mostTo (fun k => num s p (x k) (t k)) 6 : Nat)) ∧ Below w.heap.size w w' := by
  have R0 := Lib.hid (tmid_new w s p u r x t 23 25 25)
  have H := Lib.hid hp
  have HX := Lib.hid hx
  have HT := Lib.hid ht
  have HI := Lib.hid (idx25 x)
  clear hp hx ht
  unfold arr
  go_enter Try.func22, Try.ntmps22
  go_wp2_with fail
  refine (check_yes s p u r _ H.out).mono ?_
  rintro e w1 ⟨rfl, hb⟩
  have R := R0.out.later hb
  clear hb R0
  obtain ⟨P0, P1, P2, P3, P4, P5⟩ := R.fr.cells
  go_wp2_with fail
  refine (valid_yes x _ HX.out).mono ?_
  rintro e w2 ⟨rfl, hb⟩
  have R2 := R.later hb
  clear hb P0 P1 P2 P3 P4 P5 R
  obtain ⟨P0, P1, P2, P3, P4, P5⟩ := R2.tb.cells
  go_wp2_with fail
  refine (valid_yes t _ HT.out).mono ?_
  rintro e w3 ⟨rfl, hb⟩
  have R3 := R2.later hb
  clear hb P0 P1 P2 P3 P4 P5 R2
  obtain ⟨P0, P1, P2, P3⟩ := R3.pol.cells
  go_wp2_with fail
  refine (raised_any s p u r _).mono ?_
  rintro e w4 ⟨rfl, hw⟩
  have C4 : Clo w4 w3.heap.size s p := by rw [← hw]; exact clo_new _ _ _ _ _ _
  have R4 : TMid w w4 s p u r x t := by rw [← hw]; exact R3.later ((Below.refl _ _).alloc (Nat.le_refl _) _)
  clear hw P0 P1 P2 P3 R3
  generalize w3.heap.size = c at *
  obtain ⟨P0, P1, P2, P3, P4, P5⟩ := R4.fr.cells
  go_wp2_with fail
  clear P0 P1 P2 P3 P4 P5
  obtain ⟨q0, q1, q2, q3, _, _, _, _⟩ := H.out
  go_loop [8, 28] (fun m i => ∃ k : Nat, k ≤ 6 ∧ i = .int .i64 k ∧ m = .int .i64 (mostTo (fun k => num s p (x k) (t k)) k : Nat)) (fun _ i => 6 - (intOf i).toNat)
  case atStart => exact ⟨0, by omega, rfl, rfl⟩
  case round =>
    obtain ⟨k, hk, rfl, rfl⟩ := hrel
    by_cases hlt : k < 6
    · have hi := HI.out k hlt
      have tk := R4.tb.cell k hlt
      obtain ⟨x0, x1⟩ := HX.out k hlt
      obtain ⟨t0, t1⟩ := HT.out k hlt
      go_wp2_with fail
      go_loop [10, 11] (fun v n => ∃ (j : Nat) (y : Int), n = .int .i64 j ∧ v = .int .i64 y ∧ In s p (x k) (t k) j y) (fun v _ => (t k - intOf v).toNat)
      case atStart => exact ⟨0, x k, rfl, rfl, In.start x0⟩
      case round =>
        obtain ⟨j, y, rfl, rfl, I⟩ := hrel
        have y0 := I.v0
        have yj := I.jv
        by_cases hy : y < t k
        · go_wp2_with fail
          refine (raise_any s p y c _ C4.c0 C4.c1 q0 q1 q2 q3 y0 (by omega)).mono ?_
          rintro e w5 ⟨rfl, rfl⟩
          go_wp2_with fail
          go_round
          case rel => exact ⟨j + 1, up s p y, by go_num, rfl, I.step q0 q2 hy⟩
          case measure => have := up_gt q0 q2 y0; simp [intOf]; omega
        · have hd := Lib.hid (I.done hy)
          go_wp2_with fail
          go_round
          case rel => exact ⟨k + 1, by omega, by go_num, congrArg (Value.int .i64) (most_step hd.out)⟩
          case measure => simp [intOf]; omega
    · go_wp2_with fail
      go_ret
      obtain rfl : k = 6 := by omega
      exact ⟨rfl, R4.bel⟩

theorem refTicks_zero (s p u r : Int) (x t : Nat → Int) (w : World) (h : ¬ Pol s p u r ∨ ¬ valid x ∨ ¬ valid t) :
    Calls Try.prog 23 #[.agg #[.int .i64 s, .int .i64 p, .int .i64 u, .int .i64 r], .agg (arr x), .agg (arr t)] w
      fun e w' => e = .returned (.int .i64 0) ∧ Below w.heap.size w w' := by
  have R0 := Lib.hid (tmid_new w s p u r x t 23 25 25)
  have HH := Lib.hid h
  clear h
  unfold arr
  go_enter Try.func23, Try.ntmps23
  go_wp2_with fail
  by_cases hp : Pol s p u r
  · have H := Lib.hid hp
    clear hp
    refine (refCheck_yes s p u r _ H.out).mono ?_
    rintro e w1 ⟨rfl, hb⟩
    have R := R0.out.later hb
    clear hb R0
    obtain ⟨P0, P1, P2, P3, P4, P5⟩ := R.fr.cells
    go_wp2_with fail
    by_cases hx : valid x
    · have HX := Lib.hid hx
      clear hx
      refine (amounts_yes x _ HX.out).mono ?_
      rintro e w2 ⟨rfl, hb⟩
      have R2 := R.later hb
      clear hb P0 P1 P2 P3 P4 P5 R
      obtain ⟨P0, P1, P2, P3, P4, P5⟩ := R2.tb.cells
      go_wp2_with fail
      have ht : ¬ valid t := by
        rcases HH.out with h | h | h
        · exact absurd H.out h
        · exact absurd HX.out h
        · exact h
      have HT := Lib.hid ht
      clear ht
      refine (amounts_no t _ HT.out).mono ?_
      rintro e w3 ⟨rfl, hb⟩
      have R3 := R2.later hb
      go_wp2_with fail
      go_ret
      exact ⟨rfl, R3.bel⟩
    · have HX := Lib.hid hx
      clear hx
      refine (amounts_no x _ HX.out).mono ?_
      rintro e w2 ⟨rfl, hb⟩
      have R2 := R.later hb
      go_wp2_with fail
      go_ret
      exact ⟨rfl, R2.bel⟩
  · have H := Lib.hid hp
    clear hp
    refine (refCheck_no s p u r _ H.out).mono ?_
    rintro e w1 ⟨rfl, hb⟩
    have R := R0.out.later hb
    go_wp2_with fail
    go_ret
    exact ⟨rfl, R.bel⟩

set_option maxHeartbeats 800000 in
theorem refTicks_any (s p u r : Int) (x t : Nat → Int) (w : World) (hp : Pol s p u r) (hx : valid x) (ht : valid t) :
    Calls Try.prog 23 #[.agg #[.int .i64 s, .int .i64 p, .int .i64 u, .int .i64 r], .agg (arr x), .agg (arr t)] w
      fun e w' => e = .returned (.int .i64 (mostTo (fun k => num s p (x k) (t k)) 6 : Nat)) ∧ Below w.heap.size w w' := by
  have R0 := Lib.hid (tmid_new w s p u r x t 23 25 25)
  have H := Lib.hid hp
  have HX := Lib.hid hx
  have HT := Lib.hid ht
  have HI := Lib.hid (idx25 x)
  clear hp hx ht
  unfold arr
  go_enter Try.func23, Try.ntmps23
  go_wp2_with fail
  refine (refCheck_yes s p u r _ H.out).mono ?_
  rintro e w1 ⟨rfl, hb⟩
  have R := R0.out.later hb
  clear hb R0
  obtain ⟨P0, P1, P2, P3, P4, P5⟩ := R.fr.cells
  go_wp2_with fail
  refine (amounts_yes x _ HX.out).mono ?_
  rintro e w2 ⟨rfl, hb⟩
  have R2 := R.later hb
  clear hb P0 P1 P2 P3 P4 P5 R
  obtain ⟨P0, P1, P2, P3, P4, P5⟩ := R2.tb.cells
  go_wp2_with fail
  refine (amounts_yes t _ HT.out).mono ?_
  rintro e w3 ⟨rfl, hb⟩
  have R3 := R2.later hb
  clear hb P0 P1 P2 P3 P4 P5 R2
  go_wp2_with fail
  obtain ⟨q0, q1, q2, q3, _, _, _, _⟩ := H.out
  go_loopw [7, 8] (fun m i wr => ∃ k : Nat, k ≤ 6 ∧ i = .int .i64 k ∧ m = .int .i64 (mostTo (fun k => num s p (x k) (t k)) k : Nat) ∧ TMid w wr s p u r x t) (fun _ i _ => 6 - (intOf i).toNat)
  case atStart => exact ⟨0, by omega, rfl, rfl, R3⟩
  case round =>
    obtain ⟨k, hk, rfl, rfl, R4⟩ := hrel
    clear R3 HI
    by_cases hlt : k < 6
    · have fk := R4.fr.cell k hlt
      obtain ⟨x0, x1⟩ := HX.out k hlt
      obtain ⟨t0, t1⟩ := HT.out k hlt
      have hd6 : decide ((k : Int) < 6) = true := by simp; omega
      go_wp2_with fail
      obtain ⟨wo, rfl⟩ : ∃ wo : World, wo = wr := ⟨_, rfl⟩
      clear fk
      go_loopw [9, 10] (fun n v wr => ∃ (j : Nat) (y : Int), n = .int .i64 j ∧ v = .int .i64 y ∧ In s p (x k) (t k) j y ∧ TMid w wr s p u r x t) (fun _ v _ => (t k - intOf v).toNat)
      case atStart => exact ⟨0, x k, rfl, rfl, In.start x0, R4⟩
      case round =>
        obtain ⟨j, y, rfl, rfl, I, R5⟩ := hrel
        clear R4
        have y0 := I.v0
        have yj := I.jv
        have tk := R5.tb.cell k hlt
        by_cases hy : y < t k
        · obtain ⟨P0, P1, P2, P3⟩ := R5.pol.cells
          go_wp2_with fail
          refine (refRaised_any s p u r y _ q0 q1 q2 q3 y0 (by omega)).mono ?_
          rintro e w5 ⟨rfl, hw⟩
          have R6 : TMid w w5 s p u r x t := by rw [← hw]; exact R5.later ((Below.refl _ _).alloc (Nat.le_refl _) _)
          clear hw P0 P1 P2 P3 R5 tk
          go_wp2_with fail
          go_roundw
          case rel => exact ⟨j + 1, up s p y, by go_num, rfl, I.step q0 q2 hy, R6⟩
          case measure => have := up_gt q0 q2 y0; simp [intOf]; omega
        · have hd := Lib.hid (I.done hy)
          go_wp2_with fail
          go_roundw
          case rel => exact ⟨k + 1, by omega, by go_num, congrArg (Value.int .i64) (most_step hd.out), R5⟩
          case measure => simp [intOf]; omega
    · go_wp2_with fail
      go_ret
      obtain rfl : k = 6 := by omega
      exact ⟨rfl, R4.bel⟩

end Clk
end Go.Proofs.Ytnnakikhfacnpaa
