/- The laws on Start, Ticks and Next: walks. -/
import Derived.Test.YtnnakikhfacnpaaClk7
namespace Go.Proofs.Ytnnakikhfacnpaa
open Go.ChangeShapes Go.WideShapes Go.ChangeAt Go.RowKit
attribute [local go_sem] later_cell
namespace Clk

/-- a slice of products -/
def IsProds (w : World) (a : Option Addr) (n cap : Nat) (re : Nat → Int) : Prop :=
  (n = 0 ∧ (a = none → cap = 0)) ∨
  (0 < n ∧ n ≤ cap ∧ cap ≤ maxLen ∧ ∃ (b off : Nat) (nm : Nat → ByteArray) (su po gr : Nat → Int), a = some ⟨b, off, none⟩ ∧ ∀ i, i < n → ProdAt w b (off + i * 5) (nm i) (su i) (re i) (po i) (gr i))

theorem IsProds.below {B : Nat} {w w1 : World} {a : Option Addr} {n cap : Nat} {re : Nat → Int} (h : IsProds w a n cap re) (hb : Below B w w1) (hB : w.heap.size ≤ B) : IsProds w1 a n cap re := by
  rcases h with h | ⟨h0, h1, h2, b, off, nm, su, po, gr, ha, hp⟩
  · exact .inl h
  · have hlt : b < B := Nat.lt_of_lt_of_le (block_lt_of_cell (hp 0 h0).c0) hB
    exact .inr ⟨h0, h1, h2, b, off, nm, su, po, gr, ha, fun i hi => (hp i hi).below hb hlt⟩

theorem start_all (a : Option Addr) (n cap : Nat) (re : Nat → Int) (w : World) (h : IsProds w a n cap re) :
    Calls Try.prog 20 #[.slice a n cap] w fun e w' => e = .returned (.agg (arr (startP n re))) ∧ Below w.heap.size w w' := by
  rcases h with ⟨rfl, h⟩ | ⟨h0, h1, h2, b, off, nm, su, po, gr, rfl, hp⟩
  · have e : startP 0 re = startP 0 (fun _ => 0) := by funext k; simp [startP]
    rw [e]
    exact start_nil a cap w h
  · by_cases h6 : 6 < n
    · exact start_ge b off n cap nm su re po gr w h0 h1 h2 h6 hp
    · exact start_lt b off n cap nm su re po gr w h0 h1 h2 (by omega) hp
theorem refStart_all (a : Option Addr) (n cap : Nat) (re : Nat → Int) (w : World) (h : IsProds w a n cap re) :
    Calls Try.prog 21 #[.slice a n cap] w fun e w' => e = .returned (.agg (arr (startP n re))) ∧ Below w.heap.size w w' := by
  rcases h with ⟨rfl, h⟩ | ⟨h0, h1, h2, b, off, nm, su, po, gr, rfl, hp⟩
  · have e : startP 0 re = startP 0 (fun _ => 0) := by funext k; simp [startP]
    rw [e]
    exact refStart_nil a cap w h
  · by_cases h6 : 6 < n
    · exact refStart_ge b off n cap nm su re po gr w h0 h1 h2 h6 hp
    · exact refStart_lt b off n cap nm su re po gr w h0 h1 h2 (by omega) hp

theorem law_starts (a : Option Addr) (n cap : Nat) (re : Nat → Int) (w : World) (h : IsProds w a n cap re) :
    Calls Try.prog 5 #[.slice a n cap] w fun e w' => e = .returned (.bool true) ∧ Below w.heap.size w w' := by
  have H := Lib.hid h
  clear h
  by_cases hn : 20 < n
  · have hd : (20 : Int) < n := by omega
    go_enter Try.func5, Try.ntmps5
    go_wp2_with fail
    refine (awake_any _).mono ?_
    rintro e w1 ⟨rfl, hb⟩
    go_wp2
    go_ret
    exact ⟨rfl, hb⟩
  · have hd : ¬ (20 : Int) < n := by omega
    have he : ∀ w, (Op.equalIn 10000 25 (.agg (arr (startP n re))) (.agg (arr (startP n re)))).run Try.prog w = .ok true w := by
      intro w
      rw [eq25, (eq6_iff _ _).2 (fun _ _ => rfl)]
    go_enter Try.func5, Try.ntmps5
    go_wp2_with fail
    refine (start_all a n cap re _ H.out).mono ?_
    rintro e w1 ⟨rfl, b1⟩
    have H1 := Lib.hid (H.out.below b1 (Nat.le_refl _))
    go_wp2_with fail
    refine (refStart_all a n cap re _ H1.out).mono ?_
    rintro e w2 ⟨rfl, b2⟩
    have B2 := Lib.hid (chain0 b1 b2)
    clear b1 b2
    go_wp2_with fail
    refine (awake_any _).mono ?_
    rintro e w3 ⟨rfl, b3⟩
    go_wp2
    go_ret
    exact ⟨rfl, chain0 B2.out b3⟩

/-- what Ticks returns -/
noncomputable def tickV (s p u r : Int) (x t : Nat → Int) : Nat := @ite _ (Pol s p u r ∧ valid x ∧ valid t) (Classical.propDecidable _) (mostTo (fun k => num s p (x k) (t k)) 6) 0
theorem ticks_all (s p u r : Int) (x t : Nat → Int) (w : World) :
    Calls Try.prog 22 #[.agg #[.int .i64 s, .int .i64 p, .int .i64 u, .int .i64 r], .agg (arr x), .agg (arr t)] w
      fun e w' => e = .returned (.int .i64 (tickV s p u r x t : Nat)) ∧ Below w.heap.size w w' := by
  unfold tickV
  by_cases h : Pol s p u r ∧ valid x ∧ valid t
  · rw [if_pos h]; exact ticks_any s p u r x t w h.1 h.2.1 h.2.2
  · rw [if_neg h]; exact ticks_zero s p u r x t w (by
      by_cases h1 : Pol s p u r
      · by_cases h2 : valid x
        · exact .inr (.inr fun h3 => h ⟨h1, h2, h3⟩)
        · exact .inr (.inl h2)
      · exact .inl h1)
theorem refTicks_all (s p u r : Int) (x t : Nat → Int) (w : World) :
    Calls Try.prog 23 #[.agg #[.int .i64 s, .int .i64 p, .int .i64 u, .int .i64 r], .agg (arr x), .agg (arr t)] w
      fun e w' => e = .returned (.int .i64 (tickV s p u r x t : Nat)) ∧ Below w.heap.size w w' := by
  unfold tickV
  by_cases h : Pol s p u r ∧ valid x ∧ valid t
  · rw [if_pos h]; exact refTicks_any s p u r x t w h.1 h.2.1 h.2.2
  · rw [if_neg h]; exact refTicks_zero s p u r x t w (by
      by_cases h1 : Pol s p u r
      · by_cases h2 : valid x
        · exact .inr (.inr fun h3 => h ⟨h1, h2, h3⟩)
        · exact .inr (.inl h2)
      · exact .inl h1)

theorem TMid.drew {w wx : World} {s p u r : Int} {x t : Nat → Int} (h : TMid w wx s p u r x t) : TMid w wx.drew s p u r x t :=
  h.later (Below.refl _ _).drew
theorem TMid.drewN {w wx : World} {s p u r : Int} {x t : Nat → Int} (h : TMid w wx s p u r x t) (n : Nat) : TMid w (wx.drewN n) s p u r x t :=
  h.later ⟨rfl, rfl, rfl, Nat.le_refl _, fun _ _ => rfl⟩

/-- the law leaves its loop early -/
def badK (s : Int) (x t : Nat → Int) (k : Nat) : Prop := x k < 0 ∨ 1000000 < t k ∨ s < 1 ∨ (x k < t k ∧ 3000 < (t k - x k) / s)

set_option maxHeartbeats 1600000 in
theorem law_ticks (s p u r : Int) (x t : Nat → Int) (w : World) :
    Calls Try.prog 6 #[.agg #[.int .i64 s, .int .i64 p, .int .i64 u, .int .i64 r], .agg (arr x), .agg (arr t)] w fun e w' => e = .returned (.bool true) ∧ Below w.heap.size w w' := by
  have R0 := Lib.hid (tmid_new w s p u r x t 23 25 25)
  have hno : ¬ valid (v2 (-1) 0) := fun h => by have := (h 0 (by omega)).1; simp [v2] at this
  have HNO := Lib.hid hno
  clear hno
  unfold arr
  go_enter Try.func6, Try.ntmps6
  go_wp2_with fail
  go_loopw [7] (fun i wr => ∃ k : Nat, k ≤ 6 ∧ i = .int .i64 k ∧ TMid w wr s p u r x t) (fun i _ => 6 - (intOf i).toNat)
  case atStart => exact ⟨0, by omega, rfl, R0.out⟩
  case round =>
    obtain ⟨k, hk, rfl, R⟩ := hrel
    clear R0
    by_cases hlt : k < 6
    · have fk := R.fr.cell k hlt
      have tk := R.tb.cell k hlt
      obtain ⟨P0, P1, P2, P3⟩ := R.pol.cells
      have hd6 : decide ((k : Int) < 6) = true := by simp; omega
      go_wp2_with fail
      by_cases c1 : x k < 0
      · (go_quiet (fail); clear fk tk; obtain ⟨T0, T1, T2, T3, T4, T5⟩ := (R.drewN nq).tb.cells; go_wp2_with fail; refine (ticks_zero s p u r (v2 (-1) 0) t _ (.inr (.inl HNO.out))).mono ?_; rintro e w1 ⟨rfl, b1⟩; have B1 := Lib.hid (chain0 (R.drewN nq).bel b1); clear b1; go_wp2_with fail; refine (awake_any _).mono ?_; rintro e w2 ⟨rfl, b2⟩; have B2 := Lib.hid (chain0 B1.out b2); clear b2; go_wp2_with fail; go_ret; exact ⟨rfl, B2.out⟩)
      · have d1 : decide (x k < 0) = false := by simpa using c1
        by_cases c2 : 1000000 < t k
        · (go_quiet (fail); clear fk tk; obtain ⟨T0, T1, T2, T3, T4, T5⟩ := (R.drewN nq).tb.cells; go_wp2_with fail; refine (ticks_zero s p u r (v2 (-1) 0) t _ (.inr (.inl HNO.out))).mono ?_; rintro e w1 ⟨rfl, b1⟩; have B1 := Lib.hid (chain0 (R.drewN nq).bel b1); clear b1; go_wp2_with fail; refine (awake_any _).mono ?_; rintro e w2 ⟨rfl, b2⟩; have B2 := Lib.hid (chain0 B1.out b2); clear b2; go_wp2_with fail; go_ret; exact ⟨rfl, B2.out⟩)
        · have d2 : decide (1000000 < t k) = false := by simpa using c2
          by_cases c3 : s < 1
          · (go_quiet (fail); clear fk tk; obtain ⟨T0, T1, T2, T3, T4, T5⟩ := (R.drewN nq).tb.cells; go_wp2_with fail; refine (ticks_zero s p u r (v2 (-1) 0) t _ (.inr (.inl HNO.out))).mono ?_; rintro e w1 ⟨rfl, b1⟩; have B1 := Lib.hid (chain0 (R.drewN nq).bel b1); clear b1; go_wp2_with fail; refine (awake_any _).mono ?_; rintro e w2 ⟨rfl, b2⟩; have B2 := Lib.hid (chain0 B1.out b2); clear b2; go_wp2_with fail; go_ret; exact ⟨rfl, B2.out⟩)
          · have d3 : decide (s < 1) = false := by simpa using c3
            by_cases c4 : x k < t k
            · by_cases c5 : 3000 < (t k - x k) / s
              · (go_quiet (fail); clear fk tk; obtain ⟨T0, T1, T2, T3, T4, T5⟩ := (R.drewN nq).tb.cells; go_wp2_with fail; refine (ticks_zero s p u r (v2 (-1) 0) t _ (.inr (.inl HNO.out))).mono ?_; rintro e w1 ⟨rfl, b1⟩; have B1 := Lib.hid (chain0 (R.drewN nq).bel b1); clear b1; go_wp2_with fail; refine (awake_any _).mono ?_; rintro e w2 ⟨rfl, b2⟩; have B2 := Lib.hid (chain0 B1.out b2); clear b2; go_wp2_with fail; go_ret; exact ⟨rfl, B2.out⟩)
              · have d5 : decide (3000 < (t k - x k) / s) = false := by simpa using c5
                (go_quiet (fail); go_wp2_with fail; go_roundw; (case rel => exact ⟨k + 1, by omega, by go_num, R.drewN nq⟩); (case measure => simp [intOf]; omega))
            · have d4 : decide (x k < t k) = false := by simpa using c4
              (go_quiet (fail); go_wp2_with fail; go_roundw; (case rel => exact ⟨k + 1, by omega, by go_num, R.drewN nq⟩); (case measure => simp [intOf]; omega))
    · obtain ⟨P0, P1, P2, P3⟩ := R.pol.cells
      obtain ⟨F0, F1, F2, F3, F4, F5⟩ := R.fr.cells
      obtain ⟨T0, T1, T2, T3, T4, T5⟩ := R.tb.cells
      go_wp2_with fail
      refine wp_region_later (by kernel_rfl) (by kernel_rfl) ?_
      repeat (quiet_step (first
        | (go_at_call 22; exact calls_later (ticks_all s p u r x t _))
        | (go_at_call 23; exact calls_later (refTicks_all s p u r x t _))
        | (go_at_call 17; exact calls_later (awake_any _))))
      refine wpQuiet_nil ?_
      rintro _ ⟨y, rfl⟩
      go_wp2
      go_ret
      exact ⟨rfl, chain0 R.bel (later_below _ _)⟩

end Clk
end Go.Proofs.Ytnnakikhfacnpaa
