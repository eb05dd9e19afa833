/- The reference's Parse on digits; both Parse whole. Printed by gen_am2.py. -/
import Derived.Test.YtfopmaeaclbknaaDoorAm1
namespace Go.Proofs.YtfopmaeaclbknaaDoor
open Go.ChangeShapes Go.WideShapes Go.ChangeAt Go.RowKit
set_option linter.unusedVariables false
set_option linter.unusedSimpArgs false
namespace Am
open Lex (isDig val val_snoc)
set_option maxHeartbeats 1000000 in
theorem rparse_zero (s : ByteArray) (w : World) (hs : s.size ≤ 100) (ha : PAll s) (h1 : 1 < s.size) (h0 : s[0].toNat = 48) : Calls Tryd.prog 19 #[.string s] w (ParsePost 0 2 w) := by
  have hp0 : 0 < s.size := by omega
  have hs0 : (0 : Int) ≤ (s.size : Int) := by omega
  have hs1 : (s.size : Int) ≤ 100 := by omega
  have e1 : s.toList.isEmpty = false := tl_ne (by omega)
  have HD := Lib.hid ha
  clear ha
  have hp : 0 < s.size := by omega
  have t1 : decide ((1 : Int) < (s.size : Int)) = true := decide_eq_true (by omega)
  have t2 : decide (1 < s.size) = true := decide_eq_true (by omega)
  have t3 : ((s[0].toNat : Int) == 48) = true := by rw [h0]; rfl
  clear h0
  go_enter Tryd.func19, Tryd.ntmps19
  go_wp2_with fail
  go_loop [4] (fun iv => ∃ k : Nat, k ≤ s.size ∧ iv = .int .i64 (k : Int)) (fun iv => s.size - (intOf iv).toNat)
  case atStart => exact ⟨0, Nat.zero_le _, rfl⟩
  case round =>
    obtain ⟨k, hk, rfl⟩ := hrel
    have hk0 : (0 : Int) ≤ (k : Int) := by omega
    have hk5 : (k : Int) ≤ 100 := by omega
    by_cases hkn : k < s.size
    · have hks : k < s.size := by omega
      have hd1 : decide (k < s.size) = true := decide_eq_true hks
      have hd2 : decide ((k : Int) < (s.size : Int)) = true := decide_eq_true (by omega)
      obtain ⟨c, d, hcd, f1, f2, f3, f4, f5⟩ := byte_facts (HD.out k hks)
      have hc : (s[k].toNat : Int) = (c : Int) := by rw [hcd.1]
      clear hcd
      go_wp2_with fail
      go_round
      case rel => exact ⟨k + 1, by omega, by go_num⟩
      case measure => simp [intOf]; omega
    · obtain rfl : k = s.size := by omega
      have hd1 : decide (s.size < s.size) = false := decide_eq_false (by omega)
      have hd2 : decide ((s.size : Int) < (s.size : Int)) = false := decide_eq_false (by omega)
      go_wp2_with fail
      go_ret2
      exact ⟨rfl, rfl⟩
set_option maxHeartbeats 1000000 in
theorem rparse_one_big (s : ByteArray) (w : World) (hs : s.size ≤ 100) (ha : PAll s) (h1 : s.size = 1) (h0 : s[0].toNat = 48) (hv : 1000000 < pn s s.size) : Calls Tryd.prog 19 #[.string s] w (ParsePost 0 4 w) := by
  have hp0 : 0 < s.size := by omega
  have hs0 : (0 : Int) ≤ (s.size : Int) := by omega
  have hs1 : (s.size : Int) ≤ 100 := by omega
  have e1 : s.toList.isEmpty = false := tl_ne (by omega)
  have HD := Lib.hid ha
  clear ha
  have hp : 0 < s.size := by omega
  have t1 : decide ((1 : Int) < (s.size : Int)) = false := decide_eq_false (by omega)
  have t2 : decide (1 < s.size) = false := decide_eq_false (by omega)
  have t3 : ((s[0].toNat : Int) == 48) = true := by rw [h0]; rfl
  clear h0
  clear h1
  have HV := Lib.hid hv
  clear hv
  go_enter Tryd.func19, Tryd.ntmps19
  go_wp2_with fail
  go_loop [4] (fun iv => ∃ k : Nat, k ≤ s.size ∧ iv = .int .i64 (k : Int)) (fun iv => s.size - (intOf iv).toNat)
  case atStart => exact ⟨0, Nat.zero_le _, rfl⟩
  case round =>
    obtain ⟨k, hk, rfl⟩ := hrel
    have hk0 : (0 : Int) ≤ (k : Int) := by omega
    have hk5 : (k : Int) ≤ 100 := by omega
    by_cases hkn : k < s.size
    · have hks : k < s.size := by omega
      have hd1 : decide (k < s.size) = true := decide_eq_true hks
      have hd2 : decide ((k : Int) < (s.size : Int)) = true := decide_eq_true (by omega)
      obtain ⟨c, d, hcd, f1, f2, f3, f4, f5⟩ := byte_facts (HD.out k hks)
      have hc : (s[k].toNat : Int) = (c : Int) := by rw [hcd.1]
      clear hcd
      go_wp2_with fail
      go_round
      case rel => exact ⟨k + 1, by omega, by go_num⟩
      case measure => simp [intOf]; omega
    · obtain rfl : k = s.size := by omega
      have hd1 : decide (s.size < s.size) = false := decide_eq_false (by omega)
      have hd2 : decide ((s.size : Int) < (s.size : Int)) = false := decide_eq_false (by omega)
      go_wp2_with fail
      go_loop [6, 5] (fun iv nv => ∃ k : Nat, k ≤ s.size ∧ iv = .int .i64 (k : Int) ∧ nv = .int .i64 ((pn s k : Nat) : Int) ∧ Hid (pn s k ≤ 1000000)) (fun iv _ => s.size - (intOf iv).toNat)
      case atStart => exact ⟨0, Nat.zero_le _, rfl, rfl, by show pn s 0 ≤ _; simp [pn, val]⟩
      case round =>
        clear hd1 hd2 hk0 hk5
        obtain ⟨k, hk, rfl, rfl, HP⟩ := hrel
        have hk0 : (0 : Int) ≤ (k : Int) := by omega
        have hk5 : (k : Int) ≤ 100 := by omega
        have hc1 : (0 : Int) ≤ ((pn s k : Nat) : Int) := by omega
        have hc2 : ((pn s k : Nat) : Int) ≤ 1000000 := by have := HP.out; omega
        by_cases hks : k < s.size
        · have hd1 : decide (k < s.size) = true := decide_eq_true hks
          have hd2 : decide ((k : Int) < (s.size : Int)) = true := decide_eq_true (by omega)
          obtain ⟨c, d, hcd, f1, f2, f3, f4, f5⟩ := byte_facts (HD.out k hks)
          have HS : Hid (pn s (k + 1) = 10 * pn s k + d) := by
            have := pn_snoc s k hks
            rw [← hcd.1, ← hcd.2.1] at this
            show _ = _
            omega
          have hd9 : (d : Int) ≤ 9 := by have := hcd.2.2; omega
          have hd0 : (0 : Int) ≤ (d : Int) := by omega
          have hc : (s[k].toNat : Int) = (c : Int) := by rw [hcd.1]
          clear hcd
          by_cases hbg : 1000000 < 10 * pn s k + d
          · have g1 : decide ((1000000 : Int) < 10 * ((pn s k : Nat) : Int) + (d : Int)) = true := decide_eq_true (by omega)
            clear hbg
            go_wp2_with fail
            go_ret2
            exact ⟨rfl, rfl⟩
          · have g1 : decide ((1000000 : Int) < 10 * ((pn s k : Nat) : Int) + (d : Int)) = false := decide_eq_false (by omega)
            have HP2 : Hid (pn s (k + 1) ≤ 1000000) := by show _ ≤ _; rw [HS.out]; omega
            have HG : Hid (10 * ((pn s k : Nat) : Int) + (d : Int) = ((pn s (k + 1) : Nat) : Int)) := by show _ = _; rw [HS.out]; omega
            clear hbg
            go_wp2_with fail
            go_round
            case rel => exact ⟨k + 1, by omega, by go_num, by rw [HG.out], HP2⟩
            case measure => simp [intOf]; omega
        · have hke : k = s.size := by omega
          subst hke
          have hd1 : decide (s.size < s.size) = false := decide_eq_false (by omega)
          have hd2 : decide ((s.size : Int) < (s.size : Int)) = false := decide_eq_false (by omega)
          exact absurd HP.out (by have := HV.out; omega)
set_option maxHeartbeats 1000000 in
theorem rparse_one_ok (s : ByteArray) (w : World) (hs : s.size ≤ 100) (ha : PAll s) (h1 : s.size = 1) (h0 : s[0].toNat = 48) (hv : pn s s.size ≤ 1000000) : Calls Tryd.prog 19 #[.string s] w (ParsePost ((pn s s.size : Nat) : Int) 0 w) := by
  have hp0 : 0 < s.size := by omega
  have hs0 : (0 : Int) ≤ (s.size : Int) := by omega
  have hs1 : (s.size : Int) ≤ 100 := by omega
  have e1 : s.toList.isEmpty = false := tl_ne (by omega)
  have HD := Lib.hid ha
  clear ha
  have hp : 0 < s.size := by omega
  have t1 : decide ((1 : Int) < (s.size : Int)) = false := decide_eq_false (by omega)
  have t2 : decide (1 < s.size) = false := decide_eq_false (by omega)
  have t3 : ((s[0].toNat : Int) == 48) = true := by rw [h0]; rfl
  clear h0
  clear h1
  have HV := Lib.hid hv
  clear hv
  go_enter Tryd.func19, Tryd.ntmps19
  go_wp2_with fail
  go_loop [4] (fun iv => ∃ k : Nat, k ≤ s.size ∧ iv = .int .i64 (k : Int)) (fun iv => s.size - (intOf iv).toNat)
  case atStart => exact ⟨0, Nat.zero_le _, rfl⟩
  case round =>
    obtain ⟨k, hk, rfl⟩ := hrel
    have hk0 : (0 : Int) ≤ (k : Int) := by omega
    have hk5 : (k : Int) ≤ 100 := by omega
    by_cases hkn : k < s.size
    · have hks : k < s.size := by omega
      have hd1 : decide (k < s.size) = true := decide_eq_true hks
      have hd2 : decide ((k : Int) < (s.size : Int)) = true := decide_eq_true (by omega)
      obtain ⟨c, d, hcd, f1, f2, f3, f4, f5⟩ := byte_facts (HD.out k hks)
      have hc : (s[k].toNat : Int) = (c : Int) := by rw [hcd.1]
      clear hcd
      go_wp2_with fail
      go_round
      case rel => exact ⟨k + 1, by omega, by go_num⟩
      case measure => simp [intOf]; omega
    · obtain rfl : k = s.size := by omega
      have hd1 : decide (s.size < s.size) = false := decide_eq_false (by omega)
      have hd2 : decide ((s.size : Int) < (s.size : Int)) = false := decide_eq_false (by omega)
      go_wp2_with fail
      go_loop [6, 5] (fun iv nv => ∃ k : Nat, k ≤ s.size ∧ iv = .int .i64 (k : Int) ∧ nv = .int .i64 ((pn s k : Nat) : Int) ∧ Hid (pn s k ≤ 1000000)) (fun iv _ => s.size - (intOf iv).toNat)
      case atStart => exact ⟨0, Nat.zero_le _, rfl, rfl, by show pn s 0 ≤ _; simp [pn, val]⟩
      case round =>
        clear hd1 hd2 hk0 hk5
        obtain ⟨k, hk, rfl, rfl, HP⟩ := hrel
        have hk0 : (0 : Int) ≤ (k : Int) := by omega
        have hk5 : (k : Int) ≤ 100 := by omega
        have hc1 : (0 : Int) ≤ ((pn s k : Nat) : Int) := by omega
        have hc2 : ((pn s k : Nat) : Int) ≤ 1000000 := by have := HP.out; omega
        by_cases hks : k < s.size
        · have hd1 : decide (k < s.size) = true := decide_eq_true hks
          have hd2 : decide ((k : Int) < (s.size : Int)) = true := decide_eq_true (by omega)
          obtain ⟨c, d, hcd, f1, f2, f3, f4, f5⟩ := byte_facts (HD.out k hks)
          have HS : Hid (pn s (k + 1) = 10 * pn s k + d) := by
            have := pn_snoc s k hks
            rw [← hcd.1, ← hcd.2.1] at this
            show _ = _
            omega
          have hd9 : (d : Int) ≤ 9 := by have := hcd.2.2; omega
          have hd0 : (0 : Int) ≤ (d : Int) := by omega
          have hc : (s[k].toNat : Int) = (c : Int) := by rw [hcd.1]
          clear hcd
          by_cases hbg : 1000000 < 10 * pn s k + d
          · have g1 : decide ((1000000 : Int) < 10 * ((pn s k : Nat) : Int) + (d : Int)) = true := decide_eq_true (by omega)
            exact absurd HV.out (by have := pn_le s (show k + 1 ≤ s.size by omega); rw [HS.out] at this; omega)
          · have g1 : decide ((1000000 : Int) < 10 * ((pn s k : Nat) : Int) + (d : Int)) = false := decide_eq_false (by omega)
            have HP2 : Hid (pn s (k + 1) ≤ 1000000) := by show _ ≤ _; rw [HS.out]; omega
            have HG : Hid (10 * ((pn s k : Nat) : Int) + (d : Int) = ((pn s (k + 1) : Nat) : Int)) := by show _ = _; rw [HS.out]; omega
            clear hbg
            go_wp2_with fail
            go_round
            case rel => exact ⟨k + 1, by omega, by go_num, by rw [HG.out], HP2⟩
            case measure => simp [intOf]; omega
        · have hke : k = s.size := by omega
          subst hke
          have hd1 : decide (s.size < s.size) = false := decide_eq_false (by omega)
          have hd2 : decide ((s.size : Int) < (s.size : Int)) = false := decide_eq_false (by omega)
          go_wp2_with fail
          go_ret2
          exact ⟨rfl, rfl⟩
set_option maxHeartbeats 1000000 in
theorem rparse_more_big (s : ByteArray) (w : World) (hs : s.size ≤ 100) (ha : PAll s) (h1 : 0 < s.size) (h0 : ¬ s[0].toNat = 48) (hv : 1000000 < pn s s.size) : Calls Tryd.prog 19 #[.string s] w (ParsePost 0 4 w) := by
  have hp0 : 0 < s.size := by omega
  have hs0 : (0 : Int) ≤ (s.size : Int) := by omega
  have hs1 : (s.size : Int) ≤ 100 := by omega
  have e1 : s.toList.isEmpty = false := tl_ne (by omega)
  have HD := Lib.hid ha
  clear ha
  have hp : 0 < s.size := by omega
  have t3 : ((s[0].toNat : Int) == 48) = false := beq_eq_false_iff_ne.2 (by omega)
  clear h0
  have HV := Lib.hid hv
  clear hv
  go_enter Tryd.func19, Tryd.ntmps19
  go_wp2_with fail
  go_loop [4] (fun iv => ∃ k : Nat, k ≤ s.size ∧ iv = .int .i64 (k : Int)) (fun iv => s.size - (intOf iv).toNat)
  case atStart => exact ⟨0, Nat.zero_le _, rfl⟩
  case round =>
    obtain ⟨k, hk, rfl⟩ := hrel
    have hk0 : (0 : Int) ≤ (k : Int) := by omega
    have hk5 : (k : Int) ≤ 100 := by omega
    by_cases hkn : k < s.size
    · have hks : k < s.size := by omega
      have hd1 : decide (k < s.size) = true := decide_eq_true hks
      have hd2 : decide ((k : Int) < (s.size : Int)) = true := decide_eq_true (by omega)
      obtain ⟨c, d, hcd, f1, f2, f3, f4, f5⟩ := byte_facts (HD.out k hks)
      have hc : (s[k].toNat : Int) = (c : Int) := by rw [hcd.1]
      clear hcd
      go_wp2_with fail
      go_round
      case rel => exact ⟨k + 1, by omega, by go_num⟩
      case measure => simp [intOf]; omega
    · obtain rfl : k = s.size := by omega
      have hd1 : decide (s.size < s.size) = false := decide_eq_false (by omega)
      have hd2 : decide ((s.size : Int) < (s.size : Int)) = false := decide_eq_false (by omega)
      go_wp2_with fail
      go_loop [6, 5] (fun iv nv => ∃ k : Nat, k ≤ s.size ∧ iv = .int .i64 (k : Int) ∧ nv = .int .i64 ((pn s k : Nat) : Int) ∧ Hid (pn s k ≤ 1000000)) (fun iv _ => s.size - (intOf iv).toNat)
      case atStart => exact ⟨0, Nat.zero_le _, rfl, rfl, by show pn s 0 ≤ _; simp [pn, val]⟩
      case round =>
        clear hd1 hd2 hk0 hk5
        obtain ⟨k, hk, rfl, rfl, HP⟩ := hrel
        have hk0 : (0 : Int) ≤ (k : Int) := by omega
        have hk5 : (k : Int) ≤ 100 := by omega
        have hc1 : (0 : Int) ≤ ((pn s k : Nat) : Int) := by omega
        have hc2 : ((pn s k : Nat) : Int) ≤ 1000000 := by have := HP.out; omega
        by_cases hks : k < s.size
        · have hd1 : decide (k < s.size) = true := decide_eq_true hks
          have hd2 : decide ((k : Int) < (s.size : Int)) = true := decide_eq_true (by omega)
          obtain ⟨c, d, hcd, f1, f2, f3, f4, f5⟩ := byte_facts (HD.out k hks)
          have HS : Hid (pn s (k + 1) = 10 * pn s k + d) := by
            have := pn_snoc s k hks
            rw [← hcd.1, ← hcd.2.1] at this
            show _ = _
            omega
          have hd9 : (d : Int) ≤ 9 := by have := hcd.2.2; omega
          have hd0 : (0 : Int) ≤ (d : Int) := by omega
          have hc : (s[k].toNat : Int) = (c : Int) := by rw [hcd.1]
          clear hcd
          by_cases hbg : 1000000 < 10 * pn s k + d
          · have g1 : decide ((1000000 : Int) < 10 * ((pn s k : Nat) : Int) + (d : Int)) = true := decide_eq_true (by omega)
            clear hbg
            go_wp2_with fail
            go_ret2
            exact ⟨rfl, rfl⟩
          · have g1 : decide ((1000000 : Int) < 10 * ((pn s k : Nat) : Int) + (d : Int)) = false := decide_eq_false (by omega)
            have HP2 : Hid (pn s (k + 1) ≤ 1000000) := by show _ ≤ _; rw [HS.out]; omega
            have HG : Hid (10 * ((pn s k : Nat) : Int) + (d : Int) = ((pn s (k + 1) : Nat) : Int)) := by show _ = _; rw [HS.out]; omega
            clear hbg
            go_wp2_with fail
            go_round
            case rel => exact ⟨k + 1, by omega, by go_num, by rw [HG.out], HP2⟩
            case measure => simp [intOf]; omega
        · have hke : k = s.size := by omega
          subst hke
          have hd1 : decide (s.size < s.size) = false := decide_eq_false (by omega)
          have hd2 : decide ((s.size : Int) < (s.size : Int)) = false := decide_eq_false (by omega)
          exact absurd HP.out (by have := HV.out; omega)
set_option maxHeartbeats 1000000 in
theorem rparse_more_ok (s : ByteArray) (w : World) (hs : s.size ≤ 100) (ha : PAll s) (h1 : 0 < s.size) (h0 : ¬ s[0].toNat = 48) (hv : pn s s.size ≤ 1000000) : Calls Tryd.prog 19 #[.string s] w (ParsePost ((pn s s.size : Nat) : Int) 0 w) := by
  have hp0 : 0 < s.size := by omega
  have hs0 : (0 : Int) ≤ (s.size : Int) := by omega
  have hs1 : (s.size : Int) ≤ 100 := by omega
  have e1 : s.toList.isEmpty = false := tl_ne (by omega)
  have HD := Lib.hid ha
  clear ha
  have hp : 0 < s.size := by omega
  have t3 : ((s[0].toNat : Int) == 48) = false := beq_eq_false_iff_ne.2 (by omega)
  clear h0
  have HV := Lib.hid hv
  clear hv
  go_enter Tryd.func19, Tryd.ntmps19
  go_wp2_with fail
  go_loop [4] (fun iv => ∃ k : Nat, k ≤ s.size ∧ iv = .int .i64 (k : Int)) (fun iv => s.size - (intOf iv).toNat)
  case atStart => exact ⟨0, Nat.zero_le _, rfl⟩
  case round =>
    obtain ⟨k, hk, rfl⟩ := hrel
    have hk0 : (0 : Int) ≤ (k : Int) := by omega
    have hk5 : (k : Int) ≤ 100 := by omega
    by_cases hkn : k < s.size
    · have hks : k < s.size := by omega
      have hd1 : decide (k < s.size) = true := decide_eq_true hks
      have hd2 : decide ((k : Int) < (s.size : Int)) = true := decide_eq_true (by omega)
      obtain ⟨c, d, hcd, f1, f2, f3, f4, f5⟩ := byte_facts (HD.out k hks)
      have hc : (s[k].toNat : Int) = (c : Int) := by rw [hcd.1]
      clear hcd
      go_wp2_with fail
      go_round
      case rel => exact ⟨k + 1, by omega, by go_num⟩
      case measure => simp [intOf]; omega
    · obtain rfl : k = s.size := by omega
      have hd1 : decide (s.size < s.size) = false := decide_eq_false (by omega)
      have hd2 : decide ((s.size : Int) < (s.size : Int)) = false := decide_eq_false (by omega)
      go_wp2_with fail
      go_loop [6, 5] (fun iv nv => ∃ k : Nat, k ≤ s.size ∧ iv = .int .i64 (k : Int) ∧ nv = .int .i64 ((pn s k : Nat) : Int) ∧ Hid (pn s k ≤ 1000000)) (fun iv _ => s.size - (intOf iv).toNat)
      case atStart => exact ⟨0, Nat.zero_le _, rfl, rfl, by show pn s 0 ≤ _; simp [pn, val]⟩
      case round =>
        clear hd1 hd2 hk0 hk5
        obtain ⟨k, hk, rfl, rfl, HP⟩ := hrel
        have hk0 : (0 : Int) ≤ (k : Int) := by omega
        have hk5 : (k : Int) ≤ 100 := by omega
        have hc1 : (0 : Int) ≤ ((pn s k : Nat) : Int) := by omega
        have hc2 : ((pn s k : Nat) : Int) ≤ 1000000 := by have := HP.out; omega
        by_cases hks : k < s.size
        · have hd1 : decide (k < s.size) = true := decide_eq_true hks
          have hd2 : decide ((k : Int) < (s.size : Int)) = true := decide_eq_true (by omega)
          obtain ⟨c, d, hcd, f1, f2, f3, f4, f5⟩ := byte_facts (HD.out k hks)
          have HS : Hid (pn s (k + 1) = 10 * pn s k + d) := by
            have := pn_snoc s k hks
            rw [← hcd.1, ← hcd.2.1] at this
            show _ = _
            omega
          have hd9 : (d : Int) ≤ 9 := by have := hcd.2.2; omega
          have hd0 : (0 : Int) ≤ (d : Int) := by omega
          have hc : (s[k].toNat : Int) = (c : Int) := by rw [hcd.1]
          clear hcd
          by_cases hbg : 1000000 < 10 * pn s k + d
          · have g1 : decide ((1000000 : Int) < 10 * ((pn s k : Nat) : Int) + (d : Int)) = true := decide_eq_true (by omega)
            exact absurd HV.out (by have := pn_le s (show k + 1 ≤ s.size by omega); rw [HS.out] at this; omega)
          · have g1 : decide ((1000000 : Int) < 10 * ((pn s k : Nat) : Int) + (d : Int)) = false := decide_eq_false (by omega)
            have HP2 : Hid (pn s (k + 1) ≤ 1000000) := by show _ ≤ _; rw [HS.out]; omega
            have HG : Hid (10 * ((pn s k : Nat) : Int) + (d : Int) = ((pn s (k + 1) : Nat) : Int)) := by show _ = _; rw [HS.out]; omega
            clear hbg
            go_wp2_with fail
            go_round
            case rel => exact ⟨k + 1, by omega, by go_num, by rw [HG.out], HP2⟩
            case measure => simp [intOf]; omega
        · have hke : k = s.size := by omega
          subst hke
          have hd1 : decide (s.size < s.size) = false := decide_eq_false (by omega)
          have hd2 : decide ((s.size : Int) < (s.size : Int)) = false := decide_eq_false (by omega)
          go_wp2_with fail
          go_ret2
          exact ⟨rfl, rfl⟩
theorem parse_any (s : ByteArray) (w : World) (hs : s.size ≤ 100) {v e : Int} (h : Reads s v e) : Calls Tryd.prog 18 #[.string s] w (ParsePost v e w) := by
  cases h with
  | short h => exact parse_short s w hs h
  | bad m h => exact parse_bad s w hs m h
  | zero h ha h0 => exact parse_zero s w hs ha h h0
  | big h ha h0 hb =>
    by_cases h1 : s.size = 1
    · exact parse_one_big s w hs ha h1 hb
    · exact parse_more_big s w hs ha (by omega) (fun h9 => h0 ⟨by omega, h9⟩) hb
  | ok h ha h0 hb =>
    by_cases h1 : s.size = 1
    · exact parse_one_ok s w hs ha h1 hb
    · exact parse_more_ok s w hs ha (by omega) (fun h9 => h0 ⟨by omega, h9⟩) hb
theorem rparse_any (s : ByteArray) (w : World) (hs : s.size ≤ 100) {v e : Int} (h : Reads s v e) : Calls Tryd.prog 19 #[.string s] w (ParsePost v e w) := by
  cases h with
  | short h => exact rparse_short s w hs h
  | bad m h => exact rparse_bad s w hs m h
  | zero h ha h0 => exact rparse_zero s w hs ha h h0
  | big h ha h0 hb =>
    by_cases h9 : s[0].toNat = 48
    · exact rparse_one_big s w hs ha (by have : ¬ 1 < s.size := fun h1 => h0 ⟨h1, h9⟩; omega) h9 hb
    · exact rparse_more_big s w hs ha h h9 hb
  | ok h ha h0 hb =>
    by_cases h9 : s[0].toNat = 48
    · exact rparse_one_ok s w hs ha (by have : ¬ 1 < s.size := fun h1 => h0 ⟨h1, h9⟩; omega) h9 hb
    · exact rparse_more_ok s w hs ha h h9 hb
end Am
end Go.Proofs.YtfopmaeaclbknaaDoor
