/- The law that counts calls of Next. -/
import Derived.Test.YtnnakikhfacnpaaClk9
namespace Go.Proofs.Ytnnakikhfacnpaa
open Go.ChangeShapes Go.WideShapes Go.ChangeAt Go.RowKit
attribute [local go_sem] later_cell
namespace Clk

theorem num_up {s p v t : Int} (s0 : 1 ≤ s) (p0 : 0 ≤ p) (h0 : 0 ≤ v) : num s p (up s p v) t = num s p v t - 1 := by
  by_cases h : v < t
  · have := num_step s0 p0 h0 h
    omega
  · have h1 := num_done (s := s) (p := p) h
    have := up_gt s0 p0 h0
    have h2 := num_done (s := s) (p := p) (x := up s p v) (t := t) (by omega)
    omega
theorem num_pos {s p v t : Int} (s0 : 1 ≤ s) (p0 : 0 ≤ p) (h0 : 0 ≤ v) (h : num s p v t = 0) : ¬ v < t := by
  intro hl
  have := num_step s0 p0 h0 hl
  omega
theorem some_mostTo {f : Nat → Nat} {i : Nat} : ∀ k, i < mostTo f k → ∃ j, j < k ∧ i < f j
  | 0, h => by simp [mostTo] at h
  | k + 1, h => by
    by_cases h1 : i < f k
    · exact ⟨k, by omega, h1⟩
    · have h2 : i < mostTo f k := by
        have : mostTo f (k + 1) = max (mostTo f k) (f k) := rfl
        rw [this] at h
        omega
      obtain ⟨j, hj, hi⟩ := some_mostTo k h2
      exact ⟨j, by omega, hi⟩
def anyB (c t : Nat → Int) : Nat → Bool
  | 0 => false
  | k + 1 => anyB c t k || decide (c k < t k)
theorem anyB_true {c t : Nat → Int} : ∀ k, (∃ j, j < k ∧ c j < t j) → anyB c t k = true
  | 0, h => by obtain ⟨j, hj, _⟩ := h; omega
  | k + 1, h => by
    obtain ⟨j, hj, hl⟩ := h
    by_cases e : j = k
    · subst e; simp [anyB, hl]
    · have := anyB_true (c := c) (t := t) k ⟨j, by omega, hl⟩
      simp [anyB, this]

structure CMid (w wx : World) (s p u r : Int) (x t c : Nat → Int) (a : Nat) : Prop where
  t : TMid w wx s p u r x t
  q : Box wx a c
  ha : w.heap.size + 1 + 1 < a
theorem CMid.later {w wx w2 : World} {s p u r : Int} {x t c : Nat → Int} {a : Nat} (h : CMid w wx s p u r x t c a) (hb : Below wx.heap.size wx w2) : CMid w w2 s p u r x t c a :=
  ⟨h.t.later hb, h.q.below hb h.q.lt, h.ha⟩
theorem CMid.drewN {w wx : World} {s p u r : Int} {x t c : Nat → Int} {a : Nat} (h : CMid w wx s p u r x t c a) (k : Nat) : CMid w (wx.drewN k) s p u r x t c a :=
  h.later ⟨rfl, rfl, rfl, Nat.le_refl _, fun _ _ => rfl⟩
theorem CMid.alloc {w wx : World} {s p u r : Int} {x t c : Nat → Int} {a : Nat} (h : CMid w wx s p u r x t c a) (o : Obj) : CMid w (wx.alloc o) s p u r x t c a :=
  h.later (below_new _ _)
theorem CMid.put {w wx : World} {s p u r : Int} {x t c : Nat → Int} {a : Nat} (h : CMid w wx s p u r x t c a) (k : Nat) (hk : k < 6) (v : Int) : CMid w (wx.setCell ⟨a, k, none⟩ (.int .i64 v)) s p u r x t (fun j => if j = k then v else c j) a := by
  have := h.ha
  exact ⟨⟨h.t.pol.other (by omega) _, h.t.fr.other (by omega) _, h.t.tb.other (by omega) _, h.t.bel.setCell (p := ⟨a, k, none⟩) (by show w.heap.size ≤ a; omega) _⟩, h.q.set k hk v, h.ha⟩
theorem CMid.same {w wx : World} {s p u r : Int} {x t c c' : Nat → Int} {a : Nat} (h : CMid w wx s p u r x t c a) (he : ∀ k, k < 6 → c k = c' k) : CMid w wx s p u r x t c' a := ⟨h.t, h.q.congr he, h.ha⟩
theorem CMid.fill {w wx : World} {s p u r : Int} {x t c : Nat → Int} {a : Nat} (h : CMid w wx s p u r x t c a) (q : Nat → Int) :
    CMid w ((((((wx.setCell ⟨a, 0, none⟩ (.int .i64 (q 0))).setCell ⟨a, 1, none⟩ (.int .i64 (q 1))).setCell ⟨a, 2, none⟩ (.int .i64 (q 2))).setCell ⟨a, 3, none⟩ (.int .i64 (q 3))).setCell ⟨a, 4, none⟩ (.int .i64 (q 4))).setCell ⟨a, 5, none⟩ (.int .i64 (q 5))) s p u r x t q a :=
  ((((((h.put 0 (by omega) (q 0)).put 1 (by omega) (q 1)).put 2 (by omega) (q 2)).put 3 (by omega) (q 3)).put 4 (by omega) (q 4)).put 5 (by omega) (q 5)).same (by
    intro k hk
    obtain rfl | rfl | rfl | rfl | rfl | rfl : k = 0 ∨ k = 1 ∨ k = 2 ∨ k = 3 ∨ k = 4 ∨ k = 5 := by omega
    all_goals rfl)

set_option maxHeartbeats 3200000 in
theorem law_counts (s p u r : Int) (x t : Nat → Int) (w : World) :
    Calls Try.prog 7 #[.agg #[.int .i64 s, .int .i64 p, .int .i64 u, .int .i64 r], .agg (arr x), .agg (arr t)] w fun e w' => e = .returned (.bool true) ∧ Below w.heap.size w w' := by
  have R0 := Lib.hid (tmid_new w s p u r x t 23 25 25)
  unfold arr
  go_enter Try.func7, Try.ntmps7
  go_wp2_with fail
  go_loopw [7] (fun i wr => ∃ k : Nat, k ≤ 6 ∧ i = .int .i64 k ∧ TMid w wr s p u r x t ∧ ∀ j, j < k → 0 ≤ x j ∧ x j ≤ 2000 ∧ 0 ≤ t j ∧ t j ≤ 2000) (fun i _ => 6 - (intOf i).toNat)
  case atStart => exact ⟨0, by omega, rfl, R0.out, by intro j hj; omega⟩
  case round =>
    obtain ⟨k, hk, rfl, R, hall⟩ := hrel
    have HA := Lib.hid hall
    clear R0 hall
    by_cases hlt : k < 6
    · have fk := R.fr.cell k hlt
      have tk := R.tb.cell k hlt
      by_cases hb : 0 ≤ x k ∧ x k ≤ 2000 ∧ 0 ≤ t k ∧ t k ≤ 2000
      · obtain ⟨b0, b1, b2, b3⟩ := hb
        go_wp2_with fail
        go_roundw
        case rel => exact ⟨k + 1, by omega, by go_num, R, fun j hj => by
          by_cases e : j = k
          · subst e; exact ⟨b0, b1, b2, b3⟩
          · exact HA.out j (by omega)⟩
        case measure => simp [intOf]; omega
      · have HB := Lib.hid hb
        clear hb
        by_cases b0 : 0 ≤ x k
        · by_cases b1 : x k ≤ 2000
          · by_cases b2 : 0 ≤ t k
            · have b3 : 2000 < t k := by
                have := HB.out
                omega
              go_wp2_with fail
              refine (awake_any _).mono ?_
              rintro e w1 ⟨rfl, bb⟩
              go_wp2_with fail
              go_ret
              exact ⟨rfl, chain0 R.bel bb⟩
            · go_wp2_with fail
              refine (awake_any _).mono ?_
              rintro e w1 ⟨rfl, bb⟩
              go_wp2_with fail
              go_ret
              exact ⟨rfl, chain0 R.bel bb⟩
          · go_wp2_with fail
            refine (awake_any _).mono ?_
            rintro e w1 ⟨rfl, bb⟩
            go_wp2_with fail
            go_ret
            exact ⟨rfl, chain0 R.bel bb⟩
        · go_wp2_with fail
          refine (awake_any _).mono ?_
          rintro e w1 ⟨rfl, bb⟩
          go_wp2_with fail
          go_ret
          exact ⟨rfl, chain0 R.bel bb⟩
    · obtain rfl : k = 6 := by omega
      obtain ⟨P0, P1, P2, P3⟩ := R.pol.cells
      go_wp2_with fail
      by_cases hp : Pol s p u r
      · have H := Lib.hid hp
        clear hp
        refine (refCheck_yes s p u r _ H.out).mono ?_
        rintro e w1 ⟨rfl, b1⟩
        have R1 := R.later b1
        clear b1 R P0 P1 P2 P3
        obtain ⟨P0, P1, P2, P3⟩ := R1.pol.cells
        obtain ⟨F0, F1, F2, F3, F4, F5⟩ := R1.fr.cells
        obtain ⟨T0, T1, T2, T3, T4, T5⟩ := R1.tb.cells
        go_wp2_with fail
        have hvx : valid x := fun j hj => by have := HA.out j hj; omega
        have hvt : valid t := fun j hj => by have := HA.out j hj; omega
        have hle : mostTo (fun k => num s p (x k) (t k)) 6 ≤ 2000 := mostTo_le 6 (fun j hj => by
          have := HA.out j hj
          have hp := H.out
          have := num_le (s := s) (p := p) (x := x j) (t := t j) hp.s0 hp.p0 (by omega)
          omega)
        have HX := Lib.hid hvx
        have HT := Lib.hid hvt
        have HN : Hid (mostTo (fun k => num s p (x k) (t k)) 6 = mostTo (fun k => num s p (x k) (t k)) 6) := rfl
        refine (ticks_any s p u r x t _ H.out hvx hvt).mono ?_
        clear hvx hvt
        rintro e w2 ⟨rfl, b2⟩
        have R2 := R1.later b2
        clear b2 R1 P0 P1 P2 P3 F0 F1 F2 F3 F4 F5 T0 T1 T2 T3 T4 T5
        have HS := Lib.hid (fun (i : Nat) => some_mostTo (f := fun k => num s p (x k) (t k)) (i := i) 6)
        have HL := Lib.hid (fun (j : Nat) => le_mostTo (f := fun k => num s p (x k) (t k)) 6 j)
        clear HN
        generalize mostTo (fun k => num s p (x k) (t k)) 6 = N at *
        obtain ⟨F0, F1, F2, F3, F4, F5⟩ := R2.fr.cells
        go_wp2_with fail
        have C0 : CMid w (w2.alloc (.cells (arr x) 25)) s p u r x t x w2.heap.size := by
          have := R2.tb.lt
          exact ⟨R2.later (below_new _ _), box_new w2 x _, by omega⟩
        clear F0 F1 F2 F3 F4 F5 R2
        unfold arr at C0
        generalize w2.heap.size = a at *
        have NX := Lib.hid (fun (c : Nat → Int) (h : Good s p u r c fun _ => 1) w => next_good s p u r c (fun _ => 1) w h)
        have NB := Lib.hid (fun (c : Nat → Int) (h : ¬ Good s p u r c fun _ => 1) w => next_bad s p u r c (fun _ => 1) w h)
        have RB := Lib.hid (fun (c : Nat → Int) (h : ¬ Good s p u r c fun _ => 1) w => refNext_bad s p u r c (fun _ => 1) w h)
        unfold arr at NX NB RB
        go_loopw [10] (fun i wr => ∃ (k : Nat) (c : Nat → Int), k ≤ N ∧ i = .int .i64 k ∧ CMid w wr s p u r x t c a ∧ valid c ∧ ∀ j, j < 6 → num s p (c j) (t j) = num s p (x j) (t j) - k) (fun i _ => N - (intOf i).toNat)
        case atStart => exact ⟨0, x, by omega, rfl, C0, HX.out, fun j _ => by omega⟩
        case round =>
          obtain ⟨i, c, hi, rfl, C, hvc, hnum⟩ := hrel
          have HV := Lib.hid hvc
          have HU := Lib.hid hnum
          clear hvc hnum C0
          by_cases hin : i < N
          · obtain ⟨P0, P1, P2, P3⟩ := C.t.pol.cells
            obtain ⟨Q0, Q1, Q2, Q3, Q4, Q5⟩ := C.q.cells
            have hdN : decide ((i : Int) < (N : Int)) = true := by simp; omega
            go_wp2_with fail
            by_cases hg : Good s p u r c fun _ => 1
            · have HG := Lib.hid hg
              clear hg
              refine (NX.out c HG.out _).mono ?_
              rintro e w3 ⟨rfl, b3⟩
              have C3 := C.later b3
              clear b3 C P0 P1 P2 P3 Q0 Q1 Q2 Q3 Q4 Q5
              have zq := C3.q.lt
              go_wp2_with fail
              have C4 := C3.alloc (.cells (arr (nextP s p c fun _ => 1)) 25)
              have X4 := box_new w3 (nextP s p c fun _ => 1) 25
              have hne : w3.heap.size ≠ a := by omega
              have HNE := Lib.hid hne
              clear C3 zq hne
              generalize w3.heap.size = a2 at *
              obtain ⟨wo, rfl⟩ : ∃ wo : World, wo = wr := ⟨_, rfl⟩
              go_loopw [15, 16] (fun b k wr => ∃ k' : Nat, k' ≤ 6 ∧ k = .int .i64 k' ∧ b = .bool (anyB c t k') ∧ CMid w wr s p u r x t c a ∧ Box wr a2 (nextP s p c fun _ => 1)) (fun _ k _ => 6 - (intOf k).toNat)
              case atStart => exact ⟨0, by omega, rfl, rfl, C4, X4⟩
              case round =>
                obtain ⟨k, hk, rfl, rfl, C5, X5⟩ := hrel
                clear C4 X4
                by_cases hlt : k < 6
                · have ck := C5.q.cell k hlt
                  have tk := C5.t.tb.cell k hlt
                  have hd6 : decide ((k : Int) < 6) = true := by simp; omega
                  go_wp2_with fail
                  by_cases hb : anyB c t k = true
                  · rw [hb]
                    have HB := Lib.hid hb
                    clear hb
                    go_quiet (fail)
                    go_wp2_with fail
                    go_roundw
                    case rel => exact ⟨k + 1, by omega, by go_num, by simp [anyB, HB.out], C5.drewN nq, X5.below (⟨rfl, rfl, rfl, Nat.le_refl _, fun _ _ => rfl⟩ : Below wr.heap.size wr (wr.drewN nq)) X5.lt⟩
                    case measure => simp [intOf]; omega
                  · have hb' : anyB c t k = false := by simpa using hb
                    rw [hb']
                    have HB := Lib.hid hb'
                    clear hb hb'
                    go_quiet (fail)
                    go_wp2_with fail
                    go_roundw
                    case rel => exact ⟨k + 1, by omega, by go_num, by simp [anyB, HB.out], C5.drewN nq, X5.below (⟨rfl, rfl, rfl, Nat.le_refl _, fun _ _ => rfl⟩ : Below wr.heap.size wr (wr.drewN nq)) X5.lt⟩
                    case measure => simp [intOf]; omega
                · obtain rfl : k = 6 := by omega
                  have hp := H.out
                  have hany : anyB c t 6 = true := by
                    obtain ⟨j, hj, hij⟩ := HS.out i hin
                    refine anyB_true 6 ⟨j, hj, ?_⟩
                    have h1 := HU.out j hj
                    by_cases hl : c j < t j
                    · exact hl
                    · have := num_done (s := s) (p := p) hl
                      have hij' : i < num s p (x j) (t j) := hij
                      omega
                  rw [hany]
                  clear hany hp
                  obtain ⟨Q0, Q1, Q2, Q3, Q4, Q5⟩ := X5.cells
                  obtain ⟨O0, O1, O2, O3, O4, O5⟩ := C5.q.cells
                  have of := C5.q.free
                  go_wp2_with fail
                  have C6 := C5.fill (nextP s p c fun _ => 1)
                  go_roundw
                  case rel =>
                    refine ⟨i + 1, nextP s p c fun _ => 1, by omega, by go_num, C6, HG.out.2.2, fun j hj => ?_⟩
                    have h1 := HU.out j hj
                    have h2 := HV.out j hj
                    have hp := H.out
                    have h3 : nextP s p c (fun _ => 1) j = up s p (c j) := by unfold nextP; exact if_pos Int.one_pos
                    rw [h3, num_up hp.s0 hp.p0 h2.1, h1]
                    omega
                  case measure => simp [intOf]; omega
            · have HG := Lib.hid hg
              clear hg
              refine (NB.out c HG.out _).mono ?_
              rintro e w3 ⟨rfl, b3⟩
              have C3 := C.later b3
              clear b3 C P0 P1 P2 P3 Q0 Q1 Q2 Q3 Q4 Q5
              obtain ⟨P0, P1, P2, P3⟩ := C3.t.pol.cells
              obtain ⟨Q0, Q1, Q2, Q3, Q4, Q5⟩ := C3.q.cells
              have zq := C3.q.lt
              have zp := C3.t.pol.lt
              go_wp2_with fail
              refine (RB.out c HG.out _).mono ?_
              rintro e w4 ⟨rfl, b4⟩
              have B4 := Lib.hid (chain1 C3.t.bel b4)
              clear b4 C3 P0 P1 P2 P3 Q0 Q1 Q2 Q3 Q4 Q5 zq zp
              go_wp2_with fail
              refine (awake_any _).mono ?_
              rintro e w5 ⟨rfl, b5⟩
              have B5 := Lib.hid (chain1 B4.out b5)
              clear b5
              go_wp2_with fail
              go_ret
              exact ⟨rfl, B5.out⟩
          · obtain rfl : i = N := by omega
            have hdN : decide ((i : Int) < (i : Int)) = false := by simp
            go_wp2_with fail
            obtain ⟨wo, rfl⟩ : ∃ wo : World, wo = wr := ⟨_, rfl⟩
            go_loopw [17] (fun k wr => ∃ k' : Nat, k' ≤ 6 ∧ k = .int .i64 k' ∧ CMid w wr s p u r x t c a) (fun k _ => 6 - (intOf k).toNat)
            case atStart => exact ⟨0, by omega, rfl, C⟩
            case round =>
              obtain ⟨k, hk, rfl, C5⟩ := hrel
              clear C
              by_cases hlt : k < 6
              · have ck := C5.q.cell k hlt
                have tk := C5.t.tb.cell k hlt
                have hd6 : decide ((k : Int) < 6) = true := by simp; omega
                have hno : decide (c k < t k) = false := by
                  have hp := H.out
                  have h1 := HU.out k hlt
                  have h2 := HV.out k hlt
                  have h3 : num s p (x k) (t k) ≤ i := HL.out k hlt
                  have := num_pos hp.s0 hp.p0 h2.1 (by omega : num s p (c k) (t k) = 0)
                  simp; omega
                go_wp2_with fail
                go_quiet (fail)
                go_wp2_with fail
                go_roundw
                case rel => exact ⟨k + 1, by omega, by go_num, C5.drewN nq⟩
                case measure => simp [intOf]; omega
              · go_wp2_with fail
                refine (awake_any _).mono ?_
                rintro e w5 ⟨rfl, b5⟩
                have B5 := Lib.hid (chain0 C5.t.bel b5)
                clear b5
                go_wp2_with fail
                go_ret
                exact ⟨rfl, B5.out⟩
      · have H := Lib.hid hp
        clear hp
        refine (refCheck_no s p u r _ H.out).mono ?_
        rintro e w1 ⟨rfl, b1⟩
        have R1 := R.later b1
        clear b1 R P0 P1 P2 P3
        go_wp2_with fail
        refine (awake_any _).mono ?_
        rintro e w2 ⟨rfl, bb⟩
        go_wp2_with fail
        go_ret
        exact ⟨rfl, chain0 R1.bel bb⟩

end Clk
end Go.Proofs.Ytnnakikhfacnpaa
