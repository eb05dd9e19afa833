/- Contracts of the reference's Check and Within of bundles, and of reserve for any bundle. Printed by gen_sty.py. -/
import Derived.Test.YthehchdonmmpaaaGreatDoorStPz
namespace Go.Proofs.YthehchdonmmpaaaGreatDoor.St
open Go.ChangeShapes Go.WideShapes Go.ChangeAt Go.RowKit Gn Cat Lex Pr Ros Fr
set_option linter.unusedVariables false
set_option linter.unusedSimpArgs false
def valE (p : Nat → Int) : Int := if validB p = true then 0 else 4
theorem valE_bad {p : Nat → Int} {k : Nat} (hk : k < 6) (h : ¬ (0 ≤ p k ∧ p k ≤ 4)) : valE p = 4 := if_neg (fun hv => h (validB_iff.1 hv k hk))
theorem valE_ok {p : Nat → Int} (h : ∀ k, k < 6 → 0 ≤ p k ∧ p k ≤ 4) : valE p = 0 := if_pos (validB_iff.2 h)
set_option maxHeartbeats 1000000 in
theorem r7check_any (p : Nat → Int) (w : World) : Calls Tryz.prog 17 #[.agg (arr p)] w fun e w' => e = .returned (.int .i64 (valE p)) ∧ Below w.heap.size w w' := by
  have K0 := Lib.hid (box_new w p 40)
  have B0 := Lib.hid (below_new w (.cells (arr p) 40))
  have HB := Lib.hid (fun k (hk : k < 6) (h : ¬ (0 ≤ p k ∧ p k ≤ 4)) => valE_bad hk h)
  have HO := Lib.hid (fun h => valE_ok (p := p) h)
  unfold arr at K0 B0
  unfold arr
  go_enter Tryz.func17, Tryz.ntmps17
  go_wp2_with fail
  obtain ⟨w0, hw0⟩ : ∃ W, W = w.alloc (.cells #[.int .i64 (p 0), .int .i64 (p 1), .int .i64 (p 2), .int .i64 (p 3), .int .i64 (p 4), .int .i64 (p 5)] 40) := ⟨_, rfl⟩
  rw [← hw0] at K0 B0 ⊢
  clear hw0
  go_loopw [3] (fun i wr => ∃ k : Nat, k ≤ 6 ∧ i = .int .i64 (k : Int) ∧ Hid (∀ j, j < k → 0 ≤ p j ∧ p j ≤ 4) ∧ w0 = wr) (fun i _ => 6 - (intOf i).toNat)
  case atStart => exact ⟨0, by omega, rfl, fun j h => absurd h (by omega), rfl⟩
  case round =>
    obtain ⟨k, hk, rfl, HP, rfl⟩ := hrel
    by_cases hlt : k < 6
    · have hd : decide ((k : Int) < 6) = true := decide_eq_true (by omega)
      have hi0 : (0 : Int) ≤ (k : Int) := by omega
      have hk6 : (k : Int) < 6 := by omega
      have hbk := K0.out.cell k hlt
      have gz := K0.out.lt
      have HPB := Lib.hid (HB.out k hlt)
      have HPK : Hid (0 ≤ p k ∧ p k ≤ 4 → ∀ j, j < k + 1 → 0 ≤ p j ∧ p j ≤ 4) := fun h j hj => by
        by_cases e : j = k
        · rw [e]; exact h
        · exact HP.out j (by omega)
      generalize p k = pk at *
      by_cases h0 : pk < 0
      · have d0 : decide (pk < 0) = true := decide_eq_true h0
        have HV := Lib.hid (HPB.out (by omega))
        go_wp2_with fail
        go_ret
        exact ⟨by rw [HV.out]; rfl, B0.out⟩
      · have d0 : decide (pk < 0) = false := decide_eq_false h0
        by_cases h4 : 4 < pk
        · have d4 : decide (4 < pk) = true := decide_eq_true h4
          have HV := Lib.hid (HPB.out (by omega))
          go_wp2_with fail
          go_ret
          exact ⟨by rw [HV.out]; rfl, B0.out⟩
        · have d4 : decide (4 < pk) = false := decide_eq_false h4
          have HP2 := Lib.hid (HPK.out (by omega))
          go_wp2_with fail
          go_roundw
          case rel => exact ⟨k + 1, by omega, by go_num, HP2.out, by first | rfl | trivial⟩
          case measure => simp [intOf]; omega
    · obtain rfl : k = 6 := by omega
      have hd : decide (((6 : Nat) : Int) < 6) = false := by decide
      have HV := Lib.hid (HO.out HP.out)
      go_wp2_with fail
      go_ret
      exact ⟨by rw [HV.out]; rfl, B0.out⟩
set_option maxHeartbeats 1000000 in
theorem r7within_any (p q : Nat → Int) (w : World) : Calls Tryz.prog 18 #[.agg (arr p), .agg (arr q)] w fun e w' => e = .returned (.bool (within6 p q)) ∧ Below w.heap.size w w' := by
  have e1 : (w.alloc (.cells (arr p) 40)).heap.size = w.heap.size + 1 := World.size_alloc _ _
  have B1 := below_new w (.cells (arr p) 40)
  have B0 := Lib.hid (B1.alloc B1.size (.cells (arr q) 40))
  have X0 := Lib.hid ((box_new w p 40).below (below_new (w.alloc (.cells (arr p) 40)) (.cells (arr q) 40)) (by rw [e1]; omega))
  have Y0 := box_new (w.alloc (.cells (arr p) 40)) q 40
  rw [e1] at Y0
  replace Y0 := Lib.hid Y0
  have HW : Hid (within6 p q = true ↔ ∀ i, i < 6 → p i ≤ q i) := within6_iff
  generalize within6 p q = R at *
  unfold arr at B0 X0 Y0
  unfold arr
  clear B1 e1
  go_enter Tryz.func18, Tryz.ntmps18
  go_wp2_with fail
  go_loopw [5] (fun i wr => ∃ k : Nat, k ≤ 6 ∧ i = .int .i64 (k : Int) ∧ Hid (∀ j, j < k → p j ≤ q j) ∧ Hid (Box wr w.heap.size p) ∧ Hid (Box wr (w.heap.size + 1) q) ∧ Hid (Below w.heap.size w wr)) (fun i _ => 6 - (intOf i).toNat)
  case atStart => exact ⟨0, by omega, rfl, fun j h => absurd h (by omega), X0.out, Y0.out, B0.out⟩
  case round =>
    clear X0 Y0 B0
    obtain ⟨k, hk, rfl, HP, X, Y, B⟩ := hrel
    by_cases hlt : k < 6
    · have hd : decide ((k : Int) < 6) = true := decide_eq_true (by omega)
      have hi0 : (0 : Int) ≤ (k : Int) := by omega
      have hk6 : (k : Int) < 6 := by omega
      have hx := X.out.cell k hlt
      have hy := Y.out.cell k hlt
      have gx := X.out.lt
      have gy := Y.out.lt
      have HPB : Hid (q k < p k → R = false) := fun h => by
        cases hR : R with
        | false => rfl
        | true => have := HW.out.1 hR k hlt; omega
      have HPK : Hid (p k ≤ q k → ∀ j, j < k + 1 → p j ≤ q j) := fun h j hj => by
        by_cases e : j = k
        · rw [e]; exact h
        · exact HP.out j (by omega)
      have X2 : Hid (∀ n, Box (wr.drewN n) w.heap.size p) := fun n => X.out.below (Fr.drewN_below _ _) X.out.lt
      have Y2 : Hid (∀ n, Box (wr.drewN n) (w.heap.size + 1) q) := fun n => Y.out.below (Fr.drewN_below _ _) Y.out.lt
      have B2 : Hid (∀ n, Below w.heap.size w (wr.drewN n)) := fun n => chain0 B.out (Fr.drewN_below _ _)
      generalize p k = pk at *
      generalize q k = qk at *
      by_cases h0 : qk < pk
      · have d0 : decide (qk < pk) = true := decide_eq_true h0
        have HV := Lib.hid (HPB.out h0)
        go_wp2_with fail
        go_quiet (fail)
        go_wp2_with fail
        go_ret
        exact ⟨by rw [HV.out]; rfl, B2.out _⟩
      · have d0 : decide (qk < pk) = false := decide_eq_false h0
        have HP2 := Lib.hid (HPK.out (by omega))
        go_wp2_with fail
        go_quiet (fail)
        go_wp2_with fail
        go_roundw
        case rel => exact ⟨k + 1, by omega, by go_num, HP2.out, X2.out _, Y2.out _, B2.out _⟩
        case measure => simp [intOf]; omega
    · obtain rfl : k = 6 := by omega
      have hd : decide (((6 : Nat) : Int) < 6) = false := by decide
      have HV : Hid (R = true) := HW.out.2 HP.out
      go_wp2_with fail
      go_ret
      exact ⟨by rw [HV.out]; rfl, B.out⟩
set_option maxHeartbeats 1000000 in
theorem rres_bad (ps : List Prod) (v : Value) (b : Nat → Int) (w : World) (hs : SetP w v ps) (hz : checkE ps = 0) : Calls Tryz.prog 16 #[v, .agg (arr b)] w fun e w' => ∃ s : Int, e = .returned (.int .i64 s) ∧ Below w.heap.size w w' := by
  obtain ⟨A, c, rfl, _, _, ha⟩ := ps_cases hs.sl
  obtain ⟨h0, h6, hg⟩ := checkE_zero hz
  obtain ⟨b1, o1, rfl, _, h1⟩ := ha h0
  have hb1 : b1 < w.heap.size := block_lt_of_cell (h1.at_ 0 h0).1
  have HR := Lib.hid fun w' => h1.below (w' := w') hb1
  clear h1 hz hg hs
  have BN := Lib.hid (below_new w (.cells (arr b) 40))
  have K0 := Lib.hid (box_new w b 40)
  unfold arr at BN K0
  unfold arr
  go_enter Tryz.func16, Tryz.ntmps16
  go_wp2_with fail
  go_loopw [6, 5] (fun i r wr => ∃ (k : Nat) (s : Int), k ≤ ps.length ∧ i = .int .i64 (k : Int) ∧ r = .int .i64 s ∧ Hid (Box wr w.heap.size b) ∧ Hid (Below w.heap.size w wr)) (fun i _ _ => ps.length - (intOf i).toNat)
  case atStart => exact ⟨0, 0, by omega, rfl, rfl, K0.out, BN.out⟩
  case round =>
    obtain ⟨k, s, hk, rfl, rfl, K, B⟩ := hrel
    by_cases hlt : k < ps.length
    · have hd : decide ((k : Int) < (ps.length : Int)) = true := by simp; omega
      have hi0 : (0 : Int) ≤ (k : Int) := by omega
      have hk6 : k < 6 := by omega
      have h6k : (k : Int) < 6 := by omega
      have d6 : decide ((k : Int) < 6) = true := decide_eq_true h6k
      have hl1 : (k : Int) < (ps.length : Int) := by omega
      have et := (HR.out wr B.out).at_ k hlt
      have hbr : b1 < wr.heap.size := by have := B.out.size; omega
      generalize ps[k] = p at *
      have hbk := K.out.cell k hk6
      have gz := K.out.lt
      generalize b k = bk at *
      go_wp2_with fail
      go_quiet (fail)
      go_wp2_with fail
      have B3 : Hid (Below w.heap.size w (wr.drewN nq)) := chain0 B.out (Fr.drewN_below _ _)
      have K3 : Hid (Box (wr.drewN nq) w.heap.size b) := K.out.below (Fr.drewN_below _ _) K.out.lt
      go_roundw
      case rel => exact ⟨k + 1, _, by omega, by go_num, rfl, K3.out, B3.out⟩
      case measure => simp [intOf]; omega
    · obtain rfl : k = ps.length := by omega
      have hd : decide ((ps.length : Int) < (ps.length : Int)) = false := by simp
      go_wp2_with fail
      go_ret
      exact ⟨_, rfl, B.out⟩
theorem rres_gen (ps : List Prod) (v : Value) (b : Nat → Int) (w : World) (hs : SetP w v ps) (hz : checkE ps = 0) : Calls Tryz.prog 16 #[v, .agg (arr b)] w fun e w' => ∃ s : Int, e = .returned (.int .i64 s) ∧ (validB b = true → s = sumE Prod.reserve b ps) ∧ Below w.heap.size w w' := by
  cases hv : validB b with
  | true =>
    refine (rres_ok ps v b w hs hz hv).mono ?_
    rintro e w' ⟨rfl, hb⟩
    exact ⟨_, rfl, fun _ => rfl, hb⟩
  | false =>
    refine (rres_bad ps v b w hs hz).mono ?_
    rintro e w' ⟨s, rfl, hb⟩
    exact ⟨s, rfl, (fun h => by cases h), hb⟩
end Go.Proofs.YthehchdonmmpaaaGreatDoor.St
