/- Contracts of the reference's Cmp and Add. Printed by gen_nat2.py. -/
import Derived.Test.YtfopmaeaclbknaaDoorNatU
namespace Go.Proofs.YtfopmaeaclbknaaDoor
open Go.ChangeShapes Go.WideShapes Go.ChangeAt Go.RowKit
set_option linter.unusedVariables false
set_option linter.unusedSimpArgs false
namespace Fr
theorem cmp_lt {x y : Nat} (h : x < y) : cmp x y = -1 := by unfold cmp; rw [if_pos h]
theorem cmp_gt {x y : Nat} (h : y < x) : cmp x y = 1 := by unfold cmp; rw [if_neg (by omega), if_pos h]
theorem cmp_eq {x y : Nat} (h : x = y) : cmp x y = 0 := by unfold cmp; rw [if_neg (by omega), if_neg (by omega)]
set_option maxHeartbeats 1000000 in
theorem rcmp_any (a b : List Nat) (va vb : Value) (w : World) (hla : a.length ≤ 50000) (hlb : b.length ≤ 50000) (hda : Dg a) (hdb : Dg b) (ha : NS w va a) (hb : NS w vb b) : Calls Tryd.prog 100 #[va, vb] w fun e w' => e = .returned (.int .i64 (cmp (nat a) (nat b))) ∧ w = w' := by
  have CA := Lib.hid (fun i (hi : i ≤ 100000) => digit_any a va i w (by omega) hi hda ha)
  have CB := Lib.hid (fun i (hi : i ≤ 100000) => digit_any b vb i w (by omega) hi hdb hb)
  have HDA := Lib.hid hda
  have HDB := Lib.hid hdb
  obtain ⟨A1, c1, rfl, _, _, _⟩ := ns_cases ha
  obtain ⟨A2, c2, rfl, _, _, _⟩ := ns_cases hb
  clear ha hb hda hdb
  by_cases hab : a.length < b.length
  · go_enter Tryd.func100, Tryd.ntmps100
    go_wp2_with fail
    go_loop [5] (fun v => ∃ m : Nat, m ≤ b.length ∧ v = .int .i64 ((m : Int) - 1) ∧ Hid (∀ j, m ≤ j → j < b.length → dg a j = dg b j)) (fun v => (intOf v + 1).toNat)
    case atStart => exact ⟨b.length, Nat.le_refl _, rfl, fun j h1 h2 => by omega⟩
    case round =>
      obtain ⟨m, hm, rfl, HE⟩ := hrel
      cases m with
      | zero =>
        have HF : Hid (cmp (nat a) (nat b) = 0) := cmp_eq (nat_same (M := b.length) (by omega) (by omega) (fun j h => HE.out j (by omega) h))
        go_wp2_with fail
        go_ret
        exact ⟨by rw [HF.out]; rfl, rfl⟩
      | succ j =>
        rw [show (((j + 1 : Nat) : Int) - 1) = (j : Int) by omega]
        have hj0 : (0 : Int) ≤ (j : Int) := by omega
        have hj1 : (j : Int) ≤ 100000 := by omega
        have hdec : decide ((0 : Int) ≤ (j : Int)) = true := decide_eq_true hj0
        rcases Nat.lt_trichotomy (dg a j) (dg b j) with hx | hx | hx
        · have HF : Hid (cmp (nat a) (nat b) = -1) := cmp_lt (nat_less HDA.out (M := b.length) (by omega) (by omega) (by omega) (fun i h1 h2 => HE.out i (by omega) h2) hx)
          have q1 : decide (dg a j < dg b j) = true := decide_eq_true hx
          clear hx
          go_wp2_with fail
          refine (CA.out j (by omega)).mono ?_
          rintro e w1 ⟨rfl, rfl⟩
          go_wp2_with fail
          refine (CB.out j (by omega)).mono ?_
          rintro e w1' ⟨rfl, rfl⟩
          go_wp2_with fail
          go_ret
          exact ⟨by rw [HF.out]; rfl, rfl⟩
        · have HE2 : Hid (∀ i, j ≤ i → i < b.length → dg a i = dg b i) := fun i h1 h2 => by
            by_cases e : i = j
            · rw [e]; exact hx
            · exact HE.out i (by omega) h2
          have q1 : decide (dg a j < dg b j) = false := decide_eq_false (by omega)
          have q2 : decide (dg b j < dg a j) = false := decide_eq_false (by omega)
          clear hx
          go_wp2_with fail
          refine (CA.out j (by omega)).mono ?_
          rintro e w1 ⟨rfl, rfl⟩
          go_wp2_with fail
          refine (CB.out j (by omega)).mono ?_
          rintro e w1' ⟨rfl, rfl⟩
          go_wp2_with fail
          refine (CA.out j (by omega)).mono ?_
          rintro e w2 ⟨rfl, rfl⟩
          go_wp2_with fail
          refine (CB.out j (by omega)).mono ?_
          rintro e w2' ⟨rfl, rfl⟩
          go_wp2_with fail
          go_round
          case rel => exact ⟨j, by omega, by go_num, HE2⟩
          case measure => simp [intOf]
        · have HF : Hid (cmp (nat a) (nat b) = 1) := cmp_gt (nat_less HDB.out (M := b.length) (by omega) (by omega) (by omega) (fun i h1 h2 => (HE.out i (by omega) h2).symm) hx)
          have q1 : decide (dg a j < dg b j) = false := decide_eq_false (by omega)
          have q2 : decide (dg b j < dg a j) = true := decide_eq_true hx
          clear hx
          go_wp2_with fail
          refine (CA.out j (by omega)).mono ?_
          rintro e w1 ⟨rfl, rfl⟩
          go_wp2_with fail
          refine (CB.out j (by omega)).mono ?_
          rintro e w1' ⟨rfl, rfl⟩
          go_wp2_with fail
          refine (CA.out j (by omega)).mono ?_
          rintro e w2 ⟨rfl, rfl⟩
          go_wp2_with fail
          refine (CB.out j (by omega)).mono ?_
          rintro e w2' ⟨rfl, rfl⟩
          go_wp2_with fail
          go_ret
          exact ⟨by rw [HF.out]; rfl, rfl⟩
  · go_enter Tryd.func100, Tryd.ntmps100
    go_wp2_with fail
    go_loop [5] (fun v => ∃ m : Nat, m ≤ a.length ∧ v = .int .i64 ((m : Int) - 1) ∧ Hid (∀ j, m ≤ j → j < a.length → dg a j = dg b j)) (fun v => (intOf v + 1).toNat)
    case atStart => exact ⟨a.length, Nat.le_refl _, rfl, fun j h1 h2 => by omega⟩
    case round =>
      obtain ⟨m, hm, rfl, HE⟩ := hrel
      cases m with
      | zero =>
        have HF : Hid (cmp (nat a) (nat b) = 0) := cmp_eq (nat_same (M := a.length) (by omega) (by omega) (fun j h => HE.out j (by omega) h))
        go_wp2_with fail
        go_ret
        exact ⟨by rw [HF.out]; rfl, rfl⟩
      | succ j =>
        rw [show (((j + 1 : Nat) : Int) - 1) = (j : Int) by omega]
        have hj0 : (0 : Int) ≤ (j : Int) := by omega
        have hj1 : (j : Int) ≤ 100000 := by omega
        have hdec : decide ((0 : Int) ≤ (j : Int)) = true := decide_eq_true hj0
        rcases Nat.lt_trichotomy (dg a j) (dg b j) with hx | hx | hx
        · have HF : Hid (cmp (nat a) (nat b) = -1) := cmp_lt (nat_less HDA.out (M := a.length) (by omega) (by omega) (by omega) (fun i h1 h2 => HE.out i (by omega) h2) hx)
          have q1 : decide (dg a j < dg b j) = true := decide_eq_true hx
          clear hx
          go_wp2_with fail
          refine (CA.out j (by omega)).mono ?_
          rintro e w1 ⟨rfl, rfl⟩
          go_wp2_with fail
          refine (CB.out j (by omega)).mono ?_
          rintro e w1' ⟨rfl, rfl⟩
          go_wp2_with fail
          go_ret
          exact ⟨by rw [HF.out]; rfl, rfl⟩
        · have HE2 : Hid (∀ i, j ≤ i → i < a.length → dg a i = dg b i) := fun i h1 h2 => by
            by_cases e : i = j
            · rw [e]; exact hx
            · exact HE.out i (by omega) h2
          have q1 : decide (dg a j < dg b j) = false := decide_eq_false (by omega)
          have q2 : decide (dg b j < dg a j) = false := decide_eq_false (by omega)
          clear hx
          go_wp2_with fail
          refine (CA.out j (by omega)).mono ?_
          rintro e w1 ⟨rfl, rfl⟩
          go_wp2_with fail
          refine (CB.out j (by omega)).mono ?_
          rintro e w1' ⟨rfl, rfl⟩
          go_wp2_with fail
          refine (CA.out j (by omega)).mono ?_
          rintro e w2 ⟨rfl, rfl⟩
          go_wp2_with fail
          refine (CB.out j (by omega)).mono ?_
          rintro e w2' ⟨rfl, rfl⟩
          go_wp2_with fail
          go_round
          case rel => exact ⟨j, by omega, by go_num, HE2⟩
          case measure => simp [intOf]
        · have HF : Hid (cmp (nat a) (nat b) = 1) := cmp_gt (nat_less HDB.out (M := a.length) (by omega) (by omega) (by omega) (fun i h1 h2 => (HE.out i (by omega) h2).symm) hx)
          have q1 : decide (dg a j < dg b j) = false := decide_eq_false (by omega)
          have q2 : decide (dg b j < dg a j) = true := decide_eq_true hx
          clear hx
          go_wp2_with fail
          refine (CA.out j (by omega)).mono ?_
          rintro e w1 ⟨rfl, rfl⟩
          go_wp2_with fail
          refine (CB.out j (by omega)).mono ?_
          rintro e w1' ⟨rfl, rfl⟩
          go_wp2_with fail
          refine (CA.out j (by omega)).mono ?_
          rintro e w2 ⟨rfl, rfl⟩
          go_wp2_with fail
          refine (CB.out j (by omega)).mono ?_
          rintro e w2' ⟨rfl, rfl⟩
          go_wp2_with fail
          go_ret
          exact ⟨by rw [HF.out]; rfl, rfl⟩
end Fr
end Go.Proofs.YtfopmaeaclbknaaDoor
