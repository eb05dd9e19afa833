/- The reference's Parse on digits; both Parse whole. Printed by gen_am2.py. Format of both: the decimal numeral. -/
import Derived.Test.YtfopmaeaclbknaaDoorPk24
import Derived.Test.YtfopmaeaclbknaaDoorShelf
import Derived.Lib.ItoaNum
import Derived.Laws.IdiomStrings
import Derived.Lib.LaidTab
namespace Go.Proofs.YtfopmaeaclbknaaDoor
open Go.ChangeShapes Go.WideShapes Go.ChangeAt Go.RowKit
set_option linter.unusedVariables false
set_option linter.unusedSimpArgs false
namespace Am
open Lex (isDig val val_snoc)
set_option maxHeartbeats 1000000 in
theorem rparse_zero (s : ByteArray) (w : World) (hs : s.size ≤ 100) (ha : PAll s) (h1 : 1 < s.size) (h0 : s[0].toNat = 48) : Calls Tryd.prog 19 #[.string s] w (ParsePost 0 2 w) := by
  have hp0 : 0 < s.size := by omega
  have hs0 : (0 : Int) ≤ (s.size : Int) := by omega
  have hs1 : (s.size : Int) ≤ 100 := by omega
  have e1 : s.toList.isEmpty = false := tl_ne (by omega)
  have HD := Lib.hid ha
  clear ha
  have hp : 0 < s.size := by omega
  have t1 : decide ((1 : Int) < (s.size : Int)) = true := decide_eq_true (by omega)
  have t2 : decide (1 < s.size) = true := decide_eq_true (by omega)
  have t3 : ((s[0].toNat : Int) == 48) = true := by rw [h0]; rfl
  clear h0
  go_enter Tryd.func19, Tryd.ntmps19
  go_wp2_with fail
  go_loop [4] (fun iv => ∃ k : Nat, k ≤ s.size ∧ iv = .int .i64 (k : Int)) (fun iv => s.size - (intOf iv).toNat)
  case atStart => exact ⟨0, Nat.zero_le _, rfl⟩
  case round =>
    obtain ⟨k, hk, rfl⟩ := hrel
    have hk0 : (0 : Int) ≤ (k : Int) := by omega
    have hk5 : (k : Int) ≤ 100 := by omega
    by_cases hkn : k < s.size
    · have hks : k < s.size := by omega
      have hd1 : decide (k < s.size) = true := decide_eq_true hks
      have hd2 : decide ((k : Int) < (s.size : Int)) = true := decide_eq_true (by omega)
      obtain ⟨c, d, hcd, f1, f2, f3, f4, f5⟩ := byte_facts (HD.out k hks)
      have hc : (s[k].toNat : Int) = (c : Int) := by rw [hcd.1]
      clear hcd
      go_wp2_with fail
      go_round
      case rel => exact ⟨k + 1, by omega, by go_num⟩
      case measure => simp [intOf]; omega
    · obtain rfl : k = s.size := by omega
      have hd1 : decide (s.size < s.size) = false := decide_eq_false (by omega)
      have hd2 : decide ((s.size : Int) < (s.size : Int)) = false := decide_eq_false (by omega)
      go_wp2_with fail
      go_ret2
      exact ⟨rfl, rfl⟩
set_option maxHeartbeats 1000000 in
theorem rparse_one_big (s : ByteArray) (w : World) (hs : s.size ≤ 100) (ha : PAll s) (h1 : s.size = 1) (h0 : s[0].toNat = 48) (hv : 1000000 < pn s s.size) : Calls Tryd.prog 19 #[.string s] w (ParsePost 0 4 w) := by
  have hp0 : 0 < s.size := by omega
  have hs0 : (0 : Int) ≤ (s.size : Int) := by omega
  have hs1 : (s.size : Int) ≤ 100 := by omega
  have e1 : s.toList.isEmpty = false := tl_ne (by omega)
  have HD := Lib.hid ha
  clear ha
  have hp : 0 < s.size := by omega
  have t1 : decide ((1 : Int) < (s.size : Int)) = false := decide_eq_false (by omega)
  have t2 : decide (1 < s.size) = false := decide_eq_false (by omega)
  have t3 : ((s[0].toNat : Int) == 48) = true := by rw [h0]; rfl
  clear h0
  clear h1
  have HV := Lib.hid hv
  clear hv
  go_enter Tryd.func19, Tryd.ntmps19
  go_wp2_with fail
  go_loop [4] (fun iv => ∃ k : Nat, k ≤ s.size ∧ iv = .int .i64 (k : Int)) (fun iv => s.size - (intOf iv).toNat)
  case atStart => exact ⟨0, Nat.zero_le _, rfl⟩
  case round =>
    obtain ⟨k, hk, rfl⟩ := hrel
    have hk0 : (0 : Int) ≤ (k : Int) := by omega
    have hk5 : (k : Int) ≤ 100 := by omega
    by_cases hkn : k < s.size
    · have hks : k < s.size := by omega
      have hd1 : decide (k < s.size) = true := decide_eq_true hks
      have hd2 : decide ((k : Int) < (s.size : Int)) = true := decide_eq_true (by omega)
      obtain ⟨c, d, hcd, f1, f2, f3, f4, f5⟩ := byte_facts (HD.out k hks)
      have hc : (s[k].toNat : Int) = (c : Int) := by rw [hcd.1]
      clear hcd
      go_wp2_with fail
      go_round
      case rel => exact ⟨k + 1, by omega, by go_num⟩
      case measure => simp [intOf]; omega
    · obtain rfl : k = s.size := by omega
      have hd1 : decide (s.size < s.size) = false := decide_eq_false (by omega)
      have hd2 : decide ((s.size : Int) < (s.size : Int)) = false := decide_eq_false (by omega)
      go_wp2_with fail
      go_loop [6, 5] (fun iv nv => ∃ k : Nat, k ≤ s.size ∧ iv = .int .i64 (k : Int) ∧ nv = .int .i64 ((pn s k : Nat) : Int) ∧ Hid (pn s k ≤ 1000000)) (fun iv _ => s.size - (intOf iv).toNat)
      case atStart => exact ⟨0, Nat.zero_le _, rfl, rfl, by show pn s 0 ≤ _; simp [pn, val]⟩
      case round =>
        clear hd1 hd2 hk0 hk5
        obtain ⟨k, hk, rfl, rfl, HP⟩ := hrel
        have hk0 : (0 : Int) ≤ (k : Int) := by omega
        have hk5 : (k : Int) ≤ 100 := by omega
        have hc1 : (0 : Int) ≤ ((pn s k : Nat) : Int) := by omega
        have hc2 : ((pn s k : Nat) : Int) ≤ 1000000 := by have := HP.out; omega
        by_cases hks : k < s.size
        · have hd1 : decide (k < s.size) = true := decide_eq_true hks
          have hd2 : decide ((k : Int) < (s.size : Int)) = true := decide_eq_true (by omega)
          obtain ⟨c, d, hcd, f1, f2, f3, f4, f5⟩ := byte_facts (HD.out k hks)
          have HS : Hid (pn s (k + 1) = 10 * pn s k + d) := by
            have := pn_snoc s k hks
            rw [← hcd.1, ← hcd.2.1] at this
            show _ = _
            omega
          have hd9 : (d : Int) ≤ 9 := by have := hcd.2.2; omega
          have hd0 : (0 : Int) ≤ (d : Int) := by omega
          have hc : (s[k].toNat : Int) = (c : Int) := by rw [hcd.1]
          clear hcd
          by_cases hbg : 1000000 < 10 * pn s k + d
          · have g1 : decide ((1000000 : Int) < 10 * ((pn s k : Nat) : Int) + (d : Int)) = true := decide_eq_true (by omega)
            clear hbg
            go_wp2_with fail
            go_ret2
            exact ⟨rfl, rfl⟩
          · have g1 : decide ((1000000 : Int) < 10 * ((pn s k : Nat) : Int) + (d : Int)) = false := decide_eq_false (by omega)
            have HP2 : Hid (pn s (k + 1) ≤ 1000000) := by show _ ≤ _; rw [HS.out]; omega
            have HG : Hid (10 * ((pn s k : Nat) : Int) + (d : Int) = ((pn s (k + 1) : Nat) : Int)) := by show _ = _; rw [HS.out]; omega
            clear hbg
            go_wp2_with fail
            go_round
            case rel => exact ⟨k + 1, by omega, by go_num, by rw [HG.out], HP2⟩
            case measure => simp [intOf]; omega
        · have hke : k = s.size := by omega
          subst hke
          have hd1 : decide (s.size < s.size) = false := decide_eq_false (by omega)
          have hd2 : decide ((s.size : Int) < (s.size : Int)) = false := decide_eq_false (by omega)
          exact absurd HP.out (by have := HV.out; omega)
set_option maxHeartbeats 1000000 in
theorem rparse_one_ok (s : ByteArray) (w : World) (hs : s.size ≤ 100) (ha : PAll s) (h1 : s.size = 1) (h0 : s[0].toNat = 48) (hv : pn s s.size ≤ 1000000) : Calls Tryd.prog 19 #[.string s] w (ParsePost ((pn s s.size : Nat) : Int) 0 w) := by
  have hp0 : 0 < s.size := by omega
  have hs0 : (0 : Int) ≤ (s.size : Int) := by omega
  have hs1 : (s.size : Int) ≤ 100 := by omega
  have e1 : s.toList.isEmpty = false := tl_ne (by omega)
  have HD := Lib.hid ha
  clear ha
  have hp : 0 < s.size := by omega
  have t1 : decide ((1 : Int) < (s.size : Int)) = false := decide_eq_false (by omega)
  have t2 : decide (1 < s.size) = false := decide_eq_false (by omega)
  have t3 : ((s[0].toNat : Int) == 48) = true := by rw [h0]; rfl
  clear h0
  clear h1
  have HV := Lib.hid hv
  clear hv
  go_enter Tryd.func19, Tryd.ntmps19
  go_wp2_with fail
  go_loop [4] (fun iv => ∃ k : Nat, k ≤ s.size ∧ iv = .int .i64 (k : Int)) (fun iv => s.size - (intOf iv).toNat)
  case atStart => exact ⟨0, Nat.zero_le _, rfl⟩
  case round =>
    obtain ⟨k, hk, rfl⟩ := hrel
    have hk0 : (0 : Int) ≤ (k : Int) := by omega
    have hk5 : (k : Int) ≤ 100 := by omega
    by_cases hkn : k < s.size
    · have hks : k < s.size := by omega
      have hd1 : decide (k < s.size) = true := decide_eq_true hks
      have hd2 : decide ((k : Int) < (s.size : Int)) = true := decide_eq_true (by omega)
      obtain ⟨c, d, hcd, f1, f2, f3, f4, f5⟩ := byte_facts (HD.out k hks)
      have hc : (s[k].toNat : Int) = (c : Int) := by rw [hcd.1]
      clear hcd
      go_wp2_with fail
      go_round
      case rel => exact ⟨k + 1, by omega, by go_num⟩
      case measure => simp [intOf]; omega
    · obtain rfl : k = s.size := by omega
      have hd1 : decide (s.size < s.size) = false := decide_eq_false (by omega)
      have hd2 : decide ((s.size : Int) < (s.size : Int)) = false := decide_eq_false (by omega)
      go_wp2_with fail
      go_loop [6, 5] (fun iv nv => ∃ k : Nat, k ≤ s.size ∧ iv = .int .i64 (k : Int) ∧ nv = .int .i64 ((pn s k : Nat) : Int) ∧ Hid (pn s k ≤ 1000000)) (fun iv _ => s.size - (intOf iv).toNat)
      case atStart => exact ⟨0, Nat.zero_le _, rfl, rfl, by show pn s 0 ≤ _; simp [pn, val]⟩
      case round =>
        clear hd1 hd2 hk0 hk5
        obtain ⟨k, hk, rfl, rfl, HP⟩ := hrel
        have hk0 : (0 : Int) ≤ (k : Int) := by omega
        have hk5 : (k : Int) ≤ 100 := by omega
        have hc1 : (0 : Int) ≤ ((pn s k : Nat) : Int) := by omega
        have hc2 : ((pn s k : Nat) : Int) ≤ 1000000 := by have := HP.out; omega
        by_cases hks : k < s.size
        · have hd1 : decide (k < s.size) = true := decide_eq_true hks
          have hd2 : decide ((k : Int) < (s.size : Int)) = true := decide_eq_true (by omega)
          obtain ⟨c, d, hcd, f1, f2, f3, f4, f5⟩ := byte_facts (HD.out k hks)
          have HS : Hid (pn s (k + 1) = 10 * pn s k + d) := by
            have := pn_snoc s k hks
            rw [← hcd.1, ← hcd.2.1] at this
            show _ = _
            omega
          have hd9 : (d : Int) ≤ 9 := by have := hcd.2.2; omega
          have hd0 : (0 : Int) ≤ (d : Int) := by omega
          have hc : (s[k].toNat : Int) = (c : Int) := by rw [hcd.1]
          clear hcd
          by_cases hbg : 1000000 < 10 * pn s k + d
          · have g1 : decide ((1000000 : Int) < 10 * ((pn s k : Nat) : Int) + (d : Int)) = true := decide_eq_true (by omega)
            exact absurd HV.out (by have := pn_le s (show k + 1 ≤ s.size by omega); rw [HS.out] at this; omega)
          · have g1 : decide ((1000000 : Int) < 10 * ((pn s k : Nat) : Int) + (d : Int)) = false := decide_eq_false (by omega)
            have HP2 : Hid (pn s (k + 1) ≤ 1000000) := by show _ ≤ _; rw [HS.out]; omega
            have HG : Hid (10 * ((pn s k : Nat) : Int) + (d : Int) = ((pn s (k + 1) : Nat) : Int)) := by show _ = _; rw [HS.out]; omega
            clear hbg
            go_wp2_with fail
            go_round
            case rel => exact ⟨k + 1, by omega, by go_num, by rw [HG.out], HP2⟩
            case measure => simp [intOf]; omega
        · have hke : k = s.size := by omega
          subst hke
          have hd1 : decide (s.size < s.size) = false := decide_eq_false (by omega)
          have hd2 : decide ((s.size : Int) < (s.size : Int)) = false := decide_eq_false (by omega)
          go_wp2_with fail
          go_ret2
          exact ⟨rfl, rfl⟩
set_option maxHeartbeats 1000000 in
theorem rparse_more_big (s : ByteArray) (w : World) (hs : s.size ≤ 100) (ha : PAll s) (h1 : 0 < s.size) (h0 : ¬ s[0].toNat = 48) (hv : 1000000 < pn s s.size) : Calls Tryd.prog 19 #[.string s] w (ParsePost 0 4 w) := by
  have hp0 : 0 < s.size := by omega
  have hs0 : (0 : Int) ≤ (s.size : Int) := by omega
  have hs1 : (s.size : Int) ≤ 100 := by omega
  have e1 : s.toList.isEmpty = false := tl_ne (by omega)
  have HD := Lib.hid ha
  clear ha
  have hp : 0 < s.size := by omega
  have t3 : ((s[0].toNat : Int) == 48) = false := beq_eq_false_iff_ne.2 (by omega)
  clear h0
  have HV := Lib.hid hv
  clear hv
  go_enter Tryd.func19, Tryd.ntmps19
  go_wp2_with fail
  go_loop [4] (fun iv => ∃ k : Nat, k ≤ s.size ∧ iv = .int .i64 (k : Int)) (fun iv => s.size - (intOf iv).toNat)
  case atStart => exact ⟨0, Nat.zero_le _, rfl⟩
  case round =>
    obtain ⟨k, hk, rfl⟩ := hrel
    have hk0 : (0 : Int) ≤ (k : Int) := by omega
    have hk5 : (k : Int) ≤ 100 := by omega
    by_cases hkn : k < s.size
    · have hks : k < s.size := by omega
      have hd1 : decide (k < s.size) = true := decide_eq_true hks
      have hd2 : decide ((k : Int) < (s.size : Int)) = true := decide_eq_true (by omega)
      obtain ⟨c, d, hcd, f1, f2, f3, f4, f5⟩ := byte_facts (HD.out k hks)
      have hc : (s[k].toNat : Int) = (c : Int) := by rw [hcd.1]
      clear hcd
      go_wp2_with fail
      go_round
      case rel => exact ⟨k + 1, by omega, by go_num⟩
      case measure => simp [intOf]; omega
    · obtain rfl : k = s.size := by omega
      have hd1 : decide (s.size < s.size) = false := decide_eq_false (by omega)
      have hd2 : decide ((s.size : Int) < (s.size : Int)) = false := decide_eq_false (by omega)
      go_wp2_with fail
      go_loop [6, 5] (fun iv nv => ∃ k : Nat, k ≤ s.size ∧ iv = .int .i64 (k : Int) ∧ nv = .int .i64 ((pn s k : Nat) : Int) ∧ Hid (pn s k ≤ 1000000)) (fun iv _ => s.size - (intOf iv).toNat)
      case atStart => exact ⟨0, Nat.zero_le _, rfl, rfl, by show pn s 0 ≤ _; simp [pn, val]⟩
      case round =>
        clear hd1 hd2 hk0 hk5
        obtain ⟨k, hk, rfl, rfl, HP⟩ := hrel
        have hk0 : (0 : Int) ≤ (k : Int) := by omega
        have hk5 : (k : Int) ≤ 100 := by omega
        have hc1 : (0 : Int) ≤ ((pn s k : Nat) : Int) := by omega
        have hc2 : ((pn s k : Nat) : Int) ≤ 1000000 := by have := HP.out; omega
        by_cases hks : k < s.size
        · have hd1 : decide (k < s.size) = true := decide_eq_true hks
          have hd2 : decide ((k : Int) < (s.size : Int)) = true := decide_eq_true (by omega)
          obtain ⟨c, d, hcd, f1, f2, f3, f4, f5⟩ := byte_facts (HD.out k hks)
          have HS : Hid (pn s (k + 1) = 10 * pn s k + d) := by
            have := pn_snoc s k hks
            rw [← hcd.1, ← hcd.2.1] at this
            show _ = _
            omega
          have hd9 : (d : Int) ≤ 9 := by have := hcd.2.2; omega
          have hd0 : (0 : Int) ≤ (d : Int) := by omega
          have hc : (s[k].toNat : Int) = (c : Int) := by rw [hcd.1]
          clear hcd
          by_cases hbg : 1000000 < 10 * pn s k + d
          · have g1 : decide ((1000000 : Int) < 10 * ((pn s k : Nat) : Int) + (d : Int)) = true := decide_eq_true (by omega)
            clear hbg
            go_wp2_with fail
            go_ret2
            exact ⟨rfl, rfl⟩
          · have g1 : decide ((1000000 : Int) < 10 * ((pn s k : Nat) : Int) + (d : Int)) = false := decide_eq_false (by omega)
            have HP2 : Hid (pn s (k + 1) ≤ 1000000) := by show _ ≤ _; rw [HS.out]; omega
            have HG : Hid (10 * ((pn s k : Nat) : Int) + (d : Int) = ((pn s (k + 1) : Nat) : Int)) := by show _ = _; rw [HS.out]; omega
            clear hbg
            go_wp2_with fail
            go_round
            case rel => exact ⟨k + 1, by omega, by go_num, by rw [HG.out], HP2⟩
            case measure => simp [intOf]; omega
        · have hke : k = s.size := by omega
          subst hke
          have hd1 : decide (s.size < s.size) = false := decide_eq_false (by omega)
          have hd2 : decide ((s.size : Int) < (s.size : Int)) = false := decide_eq_false (by omega)
          exact absurd HP.out (by have := HV.out; omega)
set_option maxHeartbeats 1000000 in
theorem rparse_more_ok (s : ByteArray) (w : World) (hs : s.size ≤ 100) (ha : PAll s) (h1 : 0 < s.size) (h0 : ¬ s[0].toNat = 48) (hv : pn s s.size ≤ 1000000) : Calls Tryd.prog 19 #[.string s] w (ParsePost ((pn s s.size : Nat) : Int) 0 w) := by
  have hp0 : 0 < s.size := by omega
  have hs0 : (0 : Int) ≤ (s.size : Int) := by omega
  have hs1 : (s.size : Int) ≤ 100 := by omega
  have e1 : s.toList.isEmpty = false := tl_ne (by omega)
  have HD := Lib.hid ha
  clear ha
  have hp : 0 < s.size := by omega
  have t3 : ((s[0].toNat : Int) == 48) = false := beq_eq_false_iff_ne.2 (by omega)
  clear h0
  have HV := Lib.hid hv
  clear hv
  go_enter Tryd.func19, Tryd.ntmps19
  go_wp2_with fail
  go_loop [4] (fun iv => ∃ k : Nat, k ≤ s.size ∧ iv = .int .i64 (k : Int)) (fun iv => s.size - (intOf iv).toNat)
  case atStart => exact ⟨0, Nat.zero_le _, rfl⟩
  case round =>
    obtain ⟨k, hk, rfl⟩ := hrel
    have hk0 : (0 : Int) ≤ (k : Int) := by omega
    have hk5 : (k : Int) ≤ 100 := by omega
    by_cases hkn : k < s.size
    · have hks : k < s.size := by omega
      have hd1 : decide (k < s.size) = true := decide_eq_true hks
      have hd2 : decide ((k : Int) < (s.size : Int)) = true := decide_eq_true (by omega)
      obtain ⟨c, d, hcd, f1, f2, f3, f4, f5⟩ := byte_facts (HD.out k hks)
      have hc : (s[k].toNat : Int) = (c : Int) := by rw [hcd.1]
      clear hcd
      go_wp2_with fail
      go_round
      case rel => exact ⟨k + 1, by omega, by go_num⟩
      case measure => simp [intOf]; omega
    · obtain rfl : k = s.size := by omega
      have hd1 : decide (s.size < s.size) = false := decide_eq_false (by omega)
      have hd2 : decide ((s.size : Int) < (s.size : Int)) = false := decide_eq_false (by omega)
      go_wp2_with fail
      go_loop [6, 5] (fun iv nv => ∃ k : Nat, k ≤ s.size ∧ iv = .int .i64 (k : Int) ∧ nv = .int .i64 ((pn s k : Nat) : Int) ∧ Hid (pn s k ≤ 1000000)) (fun iv _ => s.size - (intOf iv).toNat)
      case atStart => exact ⟨0, Nat.zero_le _, rfl, rfl, by show pn s 0 ≤ _; simp [pn, val]⟩
      case round =>
        clear hd1 hd2 hk0 hk5
        obtain ⟨k, hk, rfl, rfl, HP⟩ := hrel
        have hk0 : (0 : Int) ≤ (k : Int) := by omega
        have hk5 : (k : Int) ≤ 100 := by omega
        have hc1 : (0 : Int) ≤ ((pn s k : Nat) : Int) := by omega
        have hc2 : ((pn s k : Nat) : Int) ≤ 1000000 := by have := HP.out; omega
        by_cases hks : k < s.size
        · have hd1 : decide (k < s.size) = true := decide_eq_true hks
          have hd2 : decide ((k : Int) < (s.size : Int)) = true := decide_eq_true (by omega)
          obtain ⟨c, d, hcd, f1, f2, f3, f4, f5⟩ := byte_facts (HD.out k hks)
          have HS : Hid (pn s (k + 1) = 10 * pn s k + d) := by
            have := pn_snoc s k hks
            rw [← hcd.1, ← hcd.2.1] at this
            show _ = _
            omega
          have hd9 : (d : Int) ≤ 9 := by have := hcd.2.2; omega
          have hd0 : (0 : Int) ≤ (d : Int) := by omega
          have hc : (s[k].toNat : Int) = (c : Int) := by rw [hcd.1]
          clear hcd
          by_cases hbg : 1000000 < 10 * pn s k + d
          · have g1 : decide ((1000000 : Int) < 10 * ((pn s k : Nat) : Int) + (d : Int)) = true := decide_eq_true (by omega)
            exact absurd HV.out (by have := pn_le s (show k + 1 ≤ s.size by omega); rw [HS.out] at this; omega)
          · have g1 : decide ((1000000 : Int) < 10 * ((pn s k : Nat) : Int) + (d : Int)) = false := decide_eq_false (by omega)
            have HP2 : Hid (pn s (k + 1) ≤ 1000000) := by show _ ≤ _; rw [HS.out]; omega
            have HG : Hid (10 * ((pn s k : Nat) : Int) + (d : Int) = ((pn s (k + 1) : Nat) : Int)) := by show _ = _; rw [HS.out]; omega
            clear hbg
            go_wp2_with fail
            go_round
            case rel => exact ⟨k + 1, by omega, by go_num, by rw [HG.out], HP2⟩
            case measure => simp [intOf]; omega
        · have hke : k = s.size := by omega
          subst hke
          have hd1 : decide (s.size < s.size) = false := decide_eq_false (by omega)
          have hd2 : decide ((s.size : Int) < (s.size : Int)) = false := decide_eq_false (by omega)
          go_wp2_with fail
          go_ret2
          exact ⟨rfl, rfl⟩
theorem parse_any (s : ByteArray) (w : World) (hs : s.size ≤ 100) {v e : Int} (h : Reads s v e) : Calls Tryd.prog 18 #[.string s] w (ParsePost v e w) := by
  cases h with
  | short h => exact parse_short s w hs h
  | bad m h => exact parse_bad s w hs m h
  | zero h ha h0 => exact parse_zero s w hs ha h h0
  | big h ha h0 hb =>
    by_cases h1 : s.size = 1
    · exact parse_one_big s w hs ha h1 hb
    · exact parse_more_big s w hs ha (by omega) (fun h9 => h0 ⟨by omega, h9⟩) hb
  | ok h ha h0 hb =>
    by_cases h1 : s.size = 1
    · exact parse_one_ok s w hs ha h1 hb
    · exact parse_more_ok s w hs ha (by omega) (fun h9 => h0 ⟨by omega, h9⟩) hb
theorem rparse_any (s : ByteArray) (w : World) (hs : s.size ≤ 100) {v e : Int} (h : Reads s v e) : Calls Tryd.prog 19 #[.string s] w (ParsePost v e w) := by
  cases h with
  | short h => exact rparse_short s w hs h
  | bad m h => exact rparse_bad s w hs m h
  | zero h ha h0 => exact rparse_zero s w hs ha h h0
  | big h ha h0 hb =>
    by_cases h9 : s[0].toNat = 48
    · exact rparse_one_big s w hs ha (by have : ¬ 1 < s.size := fun h1 => h0 ⟨h1, h9⟩; omega) h9 hb
    · exact rparse_more_big s w hs ha h h9 hb
  | ok h ha h0 hb =>
    by_cases h9 : s[0].toNat = 48
    · exact rparse_one_ok s w hs ha (by have : ¬ 1 < s.size := fun h1 => h0 ⟨h1, h9⟩; omega) h9 hb
    · exact rparse_more_ok s w hs ha h h9 hb
end Am
end Go.Proofs.YtfopmaeaclbknaaDoor
namespace Go.Proofs.YtfopmaeaclbknaaDoor
open Go.ChangeShapes Go.WideShapes Go.ChangeAt Go.RowKit
set_option linter.unusedVariables false
set_option linter.unusedSimpArgs false
namespace Am
theorem grow_below (w : World) (q : Nat) (os : Array Obj) : Below w.heap.size w (Go.Sort.grow (w.drewN q) os) :=
  ⟨rfl, rfl, rfl, by first | (simp [Go.Sort.grow]; done) | (simp [Go.Sort.grow]; omega), fun i hi => by
    show ((w.drewN q).heap ++ os)[i]? = _
    rw [Array.getElem?_append_left (by show i < w.heap.size; omega)]
    rfl⟩
/-- the table of the library's formatter stands in memory -/
abbrev Tab (w : World) : Prop := Lib.TabIs Tryd.prog w "internal/strconv.uint64pow10" .u64 Lib.pow10Tab
theorem conv_digit (W : World) (g : Nat) (x : Int) (h0 : 0 ≤ x) (h1 : x ≤ 255) (hc : W.cell? ⟨g, 0, none⟩ = some (.int .u8 x)) : (convert 122 9 (.slice (some ⟨g, 0, none⟩) 1 1)).run Tryd.prog W = .ok (.string ⟨#[UInt8.ofNat x.toNat]⟩) W := by
  have := run_convert_bytes_back (P := Tryd.prog) W 122 9 5 ⟨g, 0, none⟩ 1 [UInt8.ofNat x.toNat] (by kernel_rfl) (by kernel_rfl) (by kernel_rfl) ?_
  · exact this
  · intro j hj
    obtain rfl : j = 0 := by simpa using hj
    show W.cell? ⟨g, 0, none⟩ = _
    have e : ((UInt8.ofNat x.toNat).toNat : Int) = x := by simp; omega
    rw [show [UInt8.ofNat x.toNat][0] = UInt8.ofNat x.toNat from rfl, e]
    exact hc
theorem add_small (a b : ByteArray) (h : a.size ≤ 2000) (h2 : b.size ≤ 2000) (W : World) : (Op.stringOp .add a b).run Tryd.prog W = .ok (.string (a ++ b)) W := run_string_add_sum W _ _ (by omega)
theorem dec_small {u : Nat} (h : u < 10) : Lib.decDigits u = [UInt8.ofNat (48 + u)] := by rw [Lib.decDigits, dif_pos h]
theorem dec_big {u : Nat} (h : ¬ u < 10) : Lib.decDigits u = Lib.decDigits (u / 10) ++ [UInt8.ofNat (48 + u % 10)] := by
  conv => lhs; rw [Lib.decDigits]
  rw [dif_neg h]
theorem dec_len : ∀ (k u : Nat), u < 10 ^ (k + 1) → (Lib.decDigits u).length ≤ k + 1
  | 0, u, h => by
    rw [Nat.zero_add, Nat.pow_one] at h
    rw [dec_small h]
    exact Nat.le_refl _
  | k + 1, u, h => by
    by_cases h9 : u < 10
    · rw [dec_small h9]; simp
    · rw [dec_big h9, List.length_append]
      have := dec_len k (u / 10) (Nat.div_lt_of_lt_mul (by rw [Nat.pow_succ, Nat.mul_comm] at h; exact h))
      simp only [List.length_cons, List.length_nil]
      omega
def U64 : Nat := 18446744073709551616
theorem dec_len20 {n : Nat} (h : n < U64) : (Lib.decDigits n).length ≤ 20 := dec_len 19 n (Nat.lt_of_lt_of_le h (by decide))
theorem ba_cons (x : UInt8) (s : ByteArray) : (⟨#[x]⟩ ++ s : ByteArray).data.toList = x :: s.data.toList := by simp [ByteArray.data_append]
theorem ba_size (s : ByteArray) : s.size = s.data.toList.length := rfl
theorem ba_of {s : ByteArray} {l : List UInt8} (h : s.data.toList = l) : s = ⟨l.toArray⟩ := by
  apply ByteArray.ext
  rw [← h]
/-- one digit -/
theorem digit_facts (m : Nat) : ∃ d : Nat, (d = m % 10 ∧ d ≤ 9) ∧ (m : Int) % 10 = (d : Int) ∧ (48 + (d : Int)).toNat = 48 + d := ⟨m % 10, ⟨rfl, by omega⟩, by omega, by omega⟩
set_option maxHeartbeats 1000000 in
set_option maxRecDepth 100000 in
theorem digits_any (n : Nat) (w : World) (hn : n < U64) : Calls Tryd.prog 51 #[.int .u64 (n : Int)] w fun e w' => e = .returned (.string ⟨(Lib.decDigits n).toArray⟩) ∧ Below w.heap.size w w' := by
  have HN := Lib.hid (dec_len20 hn)
  have HU := Lib.hid hn
  clear hn
  go_enter Tryd.func51, Tryd.ntmps51
  go_wp2_with fail
  go_loopw [0, 3] (fun nv sv wr => ∃ m : Nat, ∃ s : ByteArray, nv = .int .u64 (m : Int) ∧ sv = .string s ∧ Hid (Lib.decDigits m ++ s.data.toList = Lib.decDigits n) ∧ Hid (m < U64) ∧ Hid (Below w.heap.size w wr)) (fun nv _ _ => (intOf nv).toNat)
  case atStart => exact ⟨n, ⟨#[]⟩, rfl, rfl, by show _ ++ [] = _; rw [List.append_nil], HU, Below.refl _ _⟩
  case round =>
    obtain ⟨m, s, rfl, rfl, HI, HMU, HB⟩ := hrel
    have hm0 : (0 : Int) ≤ (m : Int) := by omega
    obtain ⟨d, hd, e1, e2⟩ := digit_facts m
    have hd0 : (0 : Int) ≤ (d : Int) := by omega
    have hd9 : (d : Int) ≤ 9 := by omega
    have hsz : s.size ≤ 20 := by
      have := HN.out
      rw [← HI.out, List.length_append, ← ba_size] at this
      omega
    have hcv := conv_digit (wr.alloc (.cells #[.int .u8 (48 + (d : Int))] 5)) wr.heap.size (48 + (d : Int)) (by omega) (by omega) ((Blk.new wr 5 _).cell 0)
    rw [e2] at hcv
    have had := add_small ⟨#[UInt8.ofNat (48 + d)]⟩ s (by show 1 ≤ _; omega) (by omega)
    obtain ⟨x, hx⟩ : ∃ x, x = UInt8.ofNat (48 + d) := ⟨_, rfl⟩
    rw [← hx] at hcv had
    have HX := Lib.hid hx
    clear hx
    have HB2 : Hid (Below w.heap.size w (wr.alloc (.cells #[.int .u8 (48 + (d : Int))] 5))) := HB.out.alloc HB.out.size _
    clear hsz e2
    by_cases h9 : 9 < m
    · have d1 : decide ((9 : Int) < (m : Int)) = true := decide_eq_true (by omega)
      have HI2 : Hid (Lib.decDigits (m / 10) ++ (⟨#[x]⟩ ++ s : ByteArray).data.toList = Lib.decDigits n) := by
        show _ = _
        rw [ba_cons, ← HI.out, dec_big (u := m) (by omega), ← hd.1, HX.out]
        simp
      have hq : (m : Int) / 10 = ((m / 10 : Nat) : Int) := by omega
      have hlt : m / 10 < m := by omega
      have HLT := Lib.hid hlt
      have hmU : m < U64 := by
        have h1 := HMU.out
        exact h1
      have wq : IntKind.u64.wrap ((m / 10 : Nat) : Int) = ((m / 10 : Nat) : Int) := IntWalk.u64_in _ (by unfold U64 at hmU; omega)
      have HMU2 : Hid (m / 10 < U64) := Nat.lt_of_le_of_lt (Nat.div_le_self _ _) hmU
      clear hd hlt hmU
      generalize m / 10 = q at *
      go_wp2_with fail
      go_roundw
      case rel => exact ⟨q, _, rfl, rfl, HI2, HMU2, HB2⟩
      case measure => simp [intOf]; exact HLT.out
    · have d1 : decide ((9 : Int) < (m : Int)) = false := decide_eq_false (by omega)
      have hmd : m = d := by omega
      have HE : Hid ((⟨#[x]⟩ ++ s : ByteArray) = ⟨(Lib.decDigits n).toArray⟩) := by
        refine ba_of ?_
        rw [ba_cons, ← HI.out, dec_small (u := m) (by omega), HX.out, hmd]
        rfl
      subst hmd
      clear hd e1
      go_wp2_with fail
      go_ret
      exact ⟨by rw [← HE.out]; rfl, HB2.out⟩
def fmtPost (v : Int) (w : World) (e : Ending) (w' : World) : Prop := e = .returned (.string ⟨(Lib.itoa v).toArray⟩) ∧ Below w.heap.size w w'
theorem format_any (v : Int) (w : World) (h0 : -9223372036854775808 ≤ v) (h1 : v ≤ 9223372036854775807) (ht : Tab w) : Calls Tryd.prog 20 #[.int .i64 v] w (fmtPost v w) := by
  have C := Lib.hid (Tryd.strconv_FormatInt_10 v h0 h1 w ht)
  clear h0 h1 ht
  go_enter Tryd.func20, Tryd.ntmps20
  go_wp2_with fail
  refine C.out.mono ?_
  rintro e w1 ⟨rfl, k, os, hw⟩
  have B1 : Hid (Below w.heap.size w w1) := by rw [hw]; exact grow_below w k os
  clear hw
  go_wp2_with fail
  go_ret
  exact ⟨rfl, B1.out⟩
set_option maxRecDepth 100000 in
theorem rformat_pos (m : Nat) (w : World) (hm : m < 9223372036854775808) : Calls Tryd.prog 21 #[.int .i64 (m : Int)] w (fmtPost (m : Int) w) := by
  have C := Lib.hid (digits_any m w (by unfold U64; omega))
  have h1 : decide ((m : Int) < 0) = false := decide_eq_false (by omega)
  have h2 : IntKind.u64.wrap (m : Int) = (m : Int) := IntWalk.u64_in _ (by omega)
  have h0 : (0 : Int) ≤ (m : Int) := by omega
  have HE : Hid (Lib.itoa (m : Int) = Lib.decDigits m) := by
    show _ = _
    unfold Lib.itoa
    rw [if_neg (by omega), Int.toNat_natCast]
  unfold fmtPost
  rw [HE.out]
  clear hm
  go_enter Tryd.func21, Tryd.ntmps21
  go_wp2_with fail
  refine C.out.mono ?_
  rintro e w1 ⟨rfl, b1⟩
  have B1 := Lib.hid b1
  clear b1
  go_wp2_with fail
  go_ret
  exact ⟨rfl, B1.out⟩
set_option maxRecDepth 100000 in
theorem rformat_neg (m : Nat) (w : World) (hm : m < 9223372036854775808) : Calls Tryd.prog 21 #[.int .i64 (-((m : Int) + 1))] w (fmtPost (-((m : Int) + 1)) w) := by
  have C := Lib.hid (digits_any (m + 1) w (by unfold U64; omega))
  have h1 : decide (-((m : Int) + 1) < 0) = true := decide_eq_true (by omega)
  have h0 : (0 : Int) ≤ (m : Int) := by omega
  have HE : Hid (Lib.itoa (-((m : Int) + 1)) = 45 :: Lib.decDigits (m + 1)) := by
    show _ = _
    unfold Lib.itoa
    rw [if_pos (by omega), show (-((m : Int) + 1)).natAbs = m + 1 by omega]
  unfold fmtPost
  rw [HE.out]
  have hl := dec_len20 (show m + 1 < U64 by unfold U64; omega)
  obtain ⟨t, ht⟩ : ∃ t : ByteArray, t = ⟨(Lib.decDigits (m + 1)).toArray⟩ := ⟨_, rfl⟩
  have hts : t.size ≤ 20 := by rw [ht, ba_size]; simpa using hl
  have had := add_small ⟨#[45]⟩ t (by show 1 ≤ _; omega) (by omega)
  have HT : Hid ((⟨#[45]⟩ ++ t : ByteArray) = ⟨(45 :: Lib.decDigits (m + 1)).toArray⟩) := by
    refine ba_of ?_
    rw [ba_cons, ht]
  rw [← ht] at C
  obtain ⟨z, hz⟩ : ∃ z : Int, z = -((m : Int) + 1) := ⟨_, rfl⟩
  rw [← hz] at h1 ⊢
  have e1 : IntKind.i64.wrap (z + 1) = -(m : Int) := by rw [IntWalk.i64_in _ (by omega)]; omega
  have e2 : IntKind.i64.wrap (-(-(m : Int))) = (m : Int) := by rw [IntWalk.i64_in _ (by omega)]; omega
  have e3 : IntKind.u64.wrap (m : Int) = (m : Int) := IntWalk.u64_in _ (by omega)
  have e4 : IntKind.u64.wrap ((m : Int) + 1) = ((m + 1 : Nat) : Int) := by rw [IntWalk.u64_in _ (by omega)]; omega
  have e5 : IntKind.i64.wrap (m : Int) = (m : Int) := IntWalk.i64_in _ (by omega)
  clear hm hz hl ht hts
  go_enter Tryd.func21, Tryd.ntmps21
  go_wp2_with fail
  refine C.out.mono ?_
  rintro e w1 ⟨rfl, b1⟩
  have B1 := Lib.hid b1
  clear b1
  go_wp2_with fail
  go_ret
  exact ⟨by rw [← HT.out]; rfl, B1.out⟩
theorem rformat_any (v : Int) (w : World) (h0 : -9223372036854775808 ≤ v) (h1 : v ≤ 9223372036854775807) : Calls Tryd.prog 21 #[.int .i64 v] w (fmtPost v w) := by
  rcases Int.lt_or_le v 0 with h | h
  · obtain ⟨m, rfl⟩ : ∃ m : Nat, v = -((m : Int) + 1) := ⟨(-v - 1).toNat, by omega⟩
    exact rformat_neg m w (by omega)
  · obtain ⟨m, rfl⟩ := Int.eq_ofNat_of_zero_le h
    exact rformat_pos m w (by omega)
end Am
end Go.Proofs.YtfopmaeaclbknaaDoor
