/- Contracts of the reference's Next. -/
import Derived.Test.YtnnakikhfacnpaaClk3
namespace Go.Proofs.Ytnnakikhfacnpaa
open Go.ChangeShapes Go.WideShapes Go.ChangeAt Go.RowKit
namespace Clk

/-- the policy in its box -/
structure PolBox (w : World) (b : Nat) (s p u r : Int) : Prop where
  blk : ∃ T, w.heap[b]? = some (.cells #[.int .i64 s, .int .i64 p, .int .i64 u, .int .i64 r] T (0, 0))
theorem PolBox.cells {w : World} {b : Nat} {s p u r : Int} (h : PolBox w b s p u r) : w.cell? ⟨b, 0, none⟩ = some (.int .i64 s) ∧ w.cell? ⟨b, 1, none⟩ = some (.int .i64 p) ∧ w.cell? ⟨b, 2, none⟩ = some (.int .i64 u) ∧ w.cell? ⟨b, 3, none⟩ = some (.int .i64 r) := by
  obtain ⟨T, h⟩ := h.blk
  exact ⟨by rw [cell_of_row w b _ _ T _ h]; rfl, by rw [cell_of_row w b _ _ T _ h]; rfl, by rw [cell_of_row w b _ _ T _ h]; rfl, by rw [cell_of_row w b _ _ T _ h]; rfl⟩
theorem PolBox.lt {w : World} {b : Nat} {s p u r : Int} (h : PolBox w b s p u r) : b < w.heap.size := block_lt_of_cell h.cells.1
theorem PolBox.below {B : Nat} {w w1 : World} {b : Nat} {s p u r : Int} (h : PolBox w b s p u r) (hb : Below B w w1) (hB : b < B) : PolBox w1 b s p u r := by
  obtain ⟨T, h⟩ := h.blk
  exact ⟨T, by rw [hb.block b hB]; exact h⟩
theorem PolBox.other {w : World} {b c k : Nat} {s p u r : Int} (h : PolBox w b s p u r) (hn : b ≠ c) (v : Value) : PolBox (w.setCell ⟨c, k, none⟩ v) b s p u r := by
  obtain ⟨T, h⟩ := h.blk
  exact ⟨T, by rw [heap_setCell_other _ _ _ _ hn]; exact h⟩
theorem pol_new (w : World) (s p u r : Int) (T : TypeId) : PolBox (w.alloc (.cells #[.int .i64 s, .int .i64 p, .int .i64 u, .int .i64 r] T)) w.heap.size s p u r := ⟨T, by show (w.heap.push _)[w.heap.size]? = _; simp⟩
theorem PolBox.alloc {w : World} {b : Nat} {s p u r : Int} (h : PolBox w b s p u r) (o : Obj) : PolBox (w.alloc o) b s p u r := by
  obtain ⟨T, h'⟩ := h.blk
  exact ⟨T, by rw [Below.heap_alloc _ _ _ h.lt]; exact h'⟩

/-- the reference's Next in the midst -/
structure RMid (w wx : World) (s p u r : Int) (q n : Nat → Int) : Prop where
  pol : PolBox wx w.heap.size s p u r
  px : Box wx (w.heap.size + 1) q
  nx : Box wx (w.heap.size + 1 + 1) n
  res : Box wx (w.heap.size + 1 + 1 + 1) (fun _ => 0)
  bel : Below w.heap.size w wx
theorem RMid.later {w wx w2 : World} {s p u r : Int} {q n : Nat → Int} (h : RMid w wx s p u r q n) (hb : Below wx.heap.size wx w2) : RMid w w2 s p u r q n :=
  ⟨h.pol.below hb h.pol.lt, h.px.below hb h.px.lt, h.nx.below hb h.nx.lt, h.res.below hb h.res.lt, h.bel.trans (hb.mono h.bel.size)⟩
theorem RMid.put {w wx : World} {s p u r : Int} {q n : Nat → Int} (h : RMid w wx s p u r q n) (k : Nat) (hk : k < 6) (v : Int) : RMid w (wx.setCell ⟨w.heap.size + 1, k, none⟩ (.int .i64 v)) s p u r (fun j => if j = k then v else q j) n :=
  ⟨h.pol.other (by omega) _, h.px.set k hk v, h.nx.other (by omega) _, h.res.other (by omega) _, h.bel.setCell (p := ⟨w.heap.size + 1, k, none⟩) (by show w.heap.size ≤ w.heap.size + 1; omega) _⟩
theorem RMid.same {w wx : World} {s p u r : Int} {q q' n : Nat → Int} (h : RMid w wx s p u r q n) (he : ∀ k, k < 6 → q k = q' k) : RMid w wx s p u r q' n :=
  ⟨h.pol, h.px.congr he, h.nx, h.res, h.bel⟩
theorem rmid_new (w : World) (s p u r : Int) (x n : Nat → Int) (T1 T2 T3 T4 : TypeId) : RMid w ((((w.alloc (.cells #[.int .i64 s, .int .i64 p, .int .i64 u, .int .i64 r] T1)).alloc (.cells (arr x) T2)).alloc (.cells (arr n) T3)).alloc (.cells (arr fun _ => 0) T4)) s p u r x n := by
  refine ⟨(((pol_new w s p u r T1).alloc _).alloc _).alloc _, ?_, ?_, ?_, ((((Below.refl _ _).alloc (by go_size) _).alloc (by go_size) _).alloc (by go_size) _).alloc (by go_size) _⟩
  · have := ((box_new (w.alloc (.cells #[.int .i64 s, .int .i64 p, .int .i64 u, .int .i64 r] T1)) x T2).alloc (.cells (arr n) T3)).alloc (.cells (arr fun _ => 0) T4)
    simpa only [World.size_alloc] using this
  · have := (box_new ((w.alloc (.cells #[.int .i64 s, .int .i64 p, .int .i64 u, .int .i64 r] T1)).alloc (.cells (arr x) T2)) n T3).alloc (.cells (arr fun _ => 0) T4)
    simpa only [World.size_alloc] using this
  · have := box_new (((w.alloc (.cells #[.int .i64 s, .int .i64 p, .int .i64 u, .int .i64 r] T1)).alloc (.cells (arr x) T2)).alloc (.cells (arr n) T3)) (fun _ => 0) T4
    simpa only [World.size_alloc] using this
theorem RMid.alloc {w wx : World} {s p u r : Int} {q n : Nat → Int} (h : RMid w wx s p u r q n) (o : Obj) : RMid w (wx.alloc o) s p u r q n :=
  h.later ((Below.refl _ _).alloc (Nat.le_refl _) _)
theorem RMid.drew {w wx : World} {s p u r : Int} {q n : Nat → Int} (h : RMid w wx s p u r q n) : RMid w wx.drew s p u r q n :=
  ⟨⟨h.pol.blk⟩, h.px.drew, h.nx.drew, h.res.drew, h.bel.drew⟩

theorem refNext_pol (s p u r : Int) (x n : Nat → Int) (w : World) (hp : ¬ Pol s p u r) :
    Calls Try.prog 16 #[.agg #[.int .i64 s, .int .i64 p, .int .i64 u, .int .i64 r], .agg (arr x), .agg (arr n)] w
      fun e w' => e = .returned (.tuple #[.agg (arr fun _ => 0), .int .i64 4]) ∧ Below w.heap.size w w' := by
  have H := Lib.hid hp
  have R0 := Lib.hid (rmid_new w s p u r x n 23 25 27 25)
  clear hp
  unfold arr
  go_enter Try.func16, Try.ntmps16
  go_wp2_with fail
  refine (refCheck_no s p u r _ H.out).mono ?_
  rintro e w1 ⟨rfl, hb⟩
  have R := R0.out.later hb
  clear hb R0
  have Rf := R.res.free
  obtain ⟨Z0, Z1, Z2, Z3, Z4, Z5⟩ := R.res.cells
  go_wp2_with fail
  have RE := res_end R.res (fun _ => 0)
  obtain ⟨E0, E1, E2, E3, E4, E5⟩ := RE.cells
  refine bodyPost_ret (v := .tuple #[.agg (arr fun _ => 0), .int .i64 4]) (by simp [results, Try.results16, go_sem, arr, E0, E1, E2, E3, E4, E5]) rfl ⟨rfl, ?_⟩
  have := R.bel
  go_grown

theorem refNext_inv (s p u r : Int) (x n : Nat → Int) (w : World) (hp : Pol s p u r) (hx : ¬ valid x) :
    Calls Try.prog 16 #[.agg #[.int .i64 s, .int .i64 p, .int .i64 u, .int .i64 r], .agg (arr x), .agg (arr n)] w
      fun e w' => e = .returned (.tuple #[.agg (arr fun _ => 0), .int .i64 4]) ∧ Below w.heap.size w w' := by
  have H := Lib.hid hp
  have HX := Lib.hid hx
  have R0 := Lib.hid (rmid_new w s p u r x n 23 25 27 25)
  clear hp hx
  unfold arr
  go_enter Try.func16, Try.ntmps16
  go_wp2_with fail
  refine (refCheck_yes s p u r _ H.out).mono ?_
  rintro e w1 ⟨rfl, hb⟩
  have R := R0.out.later hb
  clear hb R0
  obtain ⟨P0, P1, P2, P3, P4, P5⟩ := R.px.cells
  go_wp2_with fail
  refine (amounts_no x _ HX.out).mono ?_
  rintro e w2 ⟨rfl, hb⟩
  have R2 := R.later hb
  clear hb P0 P1 P2 P3 P4 P5 R
  have Rf := R2.res.free
  obtain ⟨Z0, Z1, Z2, Z3, Z4, Z5⟩ := R2.res.cells
  go_wp2_with fail
  have RE := res_end R2.res (fun _ => 0)
  obtain ⟨E0, E1, E2, E3, E4, E5⟩ := RE.cells
  refine bodyPost_ret (v := .tuple #[.agg (arr fun _ => 0), .int .i64 4]) (by simp [results, Try.results16, go_sem, arr, E0, E1, E2, E3, E4, E5]) rfl ⟨rfl, ?_⟩
  have := R2.bel
  go_grown

set_option maxHeartbeats 800000 in
theorem refNext_any (s p u r : Int) (x n : Nat → Int) (w : World) (hp : Pol s p u r) (hx : valid x) :
    Calls Try.prog 16 #[.agg #[.int .i64 s, .int .i64 p, .int .i64 u, .int .i64 r], .agg (arr x), .agg (arr n)] w
      fun e w' => NextPost s p x n w e w' := by
  have H := Lib.hid hp
  have HX := Lib.hid hx
  have R0 := Lib.hid (rmid_new w s p u r x n 23 25 27 25)
  clear hp hx
  unfold arr
  go_enter Try.func16, Try.ntmps16
  go_wp2_with fail
  refine (refCheck_yes s p u r _ H.out).mono ?_
  rintro e w1 ⟨rfl, hb⟩
  have R := R0.out.later hb
  clear hb R0
  obtain ⟨P0, P1, P2, P3, P4, P5⟩ := R.px.cells
  go_wp2_with fail
  refine (amounts_yes x _ HX.out).mono ?_
  rintro e w2 ⟨rfl, hb⟩
  have R2 := R.later hb
  clear hb P0 P1 P2 P3 P4 P5 R
  go_wp2_with fail
  have HM := Lib.hid (mix_yes s p x n)
  have HN := Lib.hid (mix_no s p x n)
  have HE := Lib.hid (mix_end s p x n)
  have HS : Hid (∀ k, mix s p x n k k = x k) := fun k => by simp [mix]
  obtain ⟨q0, q1, q2, q3, _, _, _, _⟩ := H.out
  go_loopw [8] (fun i wr => ∃ k : Nat, k ≤ 6 ∧ i = .int .i64 k ∧ RMid w wr s p u r (mix s p x n k) n) (fun i _ => 6 - (intOf i).toNat)
  case atStart => exact ⟨0, by omega, rfl, R2.same (by intro k _; simp [mix])⟩
  case round =>
    obtain ⟨k, hk, rfl, R⟩ := hrel
    clear R2
    by_cases hlt : k < 6
    · have hi := R.nx.cell k hlt
      by_cases hn : 0 < n k
      · obtain ⟨O0, O1, O2, O3⟩ := R.pol.cells
        have pk := R.px.cell k hlt
        rw [HS.out k] at pk
        have pf := R.px.free k
        obtain ⟨xa, xb⟩ := HX.out k hlt
        go_wp2_with fail
        have zp := R.px.lt
        have n1 : ¬ w.heap.size + 1 = wr.heap.size := by omega
        have n0 : ¬ w.heap.size = wr.heap.size := by omega
        go_region_with (first | (go_at_call 45; refine (refRaised_any s p u r (x k) _ q0 q1 q2 q3 xa xb).mono ?_; rintro e w' ⟨rfl, rfl⟩))
        all_goals
          go_wp2
          go_roundw
          case rel => exact ⟨k + 1, by omega, by go_num, (((R.put k hlt _).same fun j _ => HM.out k hn j).alloc _).drew⟩
          case measure => simp [intOf]; omega
      · go_wp2
        go_roundw
        case rel => exact ⟨k + 1, by omega, by go_num, R.same fun j _ => HN.out k hn j⟩
        case measure => simp [intOf]; omega
    · have R3 := R.same (fun j hj => HE.out k (by omega) j hj)
      clear R
      obtain ⟨P0, P1, P2, P3, P4, P5⟩ := R3.px.cells
      go_wp2_with fail
      by_cases hv : valid (nextP s p x n)
      · have HV := Lib.hid hv
        clear hv
        refine (amounts_yes _ _ HV.out).mono ?_
        rintro e w3 ⟨rfl, hb3⟩
        have R4 := R3.later hb3
        clear hb3 P0 P1 P2 P3 P4 P5
        have Rf := R4.res.free
        obtain ⟨Q0, Q1, Q2, Q3, Q4, Q5⟩ := R4.px.cells
        obtain ⟨Z0, Z1, Z2, Z3, Z4, Z5⟩ := R4.res.cells
        go_wp2
        have RE := res_end R4.res (nextP s p x n)
        obtain ⟨E0, E1, E2, E3, E4, E5⟩ := RE.cells
        refine bodyPost_ret (v := .tuple #[.agg (arr (nextP s p x n)), .int .i64 0]) (by simp [results, Try.results16, go_sem, arr, E0, E1, E2, E3, E4, E5]) rfl ⟨fun _ => rfl, fun h => absurd HV.out h, ?_⟩
        have := R4.bel
        go_grown
      · have HV := Lib.hid hv
        clear hv
        refine (amounts_no _ _ HV.out).mono ?_
        rintro e w3 ⟨rfl, hb3⟩
        have R4 := R3.later hb3
        clear hb3 P0 P1 P2 P3 P4 P5
        have Rf := R4.res.free
        obtain ⟨Z0, Z1, Z2, Z3, Z4, Z5⟩ := R4.res.cells
        go_wp2
        have RE := res_end R4.res (fun _ => 0)
        obtain ⟨E0, E1, E2, E3, E4, E5⟩ := RE.cells
        refine bodyPost_ret (v := .tuple #[.agg (arr fun _ => 0), .int .i64 4]) (by simp [results, Try.results16, go_sem, arr, E0, E1, E2, E3, E4, E5]) rfl ⟨fun h => absurd h HV.out, fun _ => rfl, ?_⟩
        have := R4.bel
        go_grown

end Clk
end Go.Proofs.Ytnnakikhfacnpaa
