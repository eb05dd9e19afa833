/- The law on names: walk. Printed by gen_lexV.py. -/
import Derived.Test.YtabkaaapkcadhaaLexU
namespace Go.Proofs.Ytabkaaapkcadhaa
open Go.ChangeShapes Go.WideShapes Go.ChangeAt Go.RowKit
namespace Lex
set_option maxHeartbeats 800000 in
theorem law_names (s : ByteArray) (w : World) (hs : s.size ≤ maxLen) : Calls Try.prog 4 #[.string s] w fun e w' => e = .returned (.bool true) ∧ Below w.heap.size w w' := by
  have AW := Lib.hid awake_any
  by_cases h : 5000 < s.size
  · unfold maxLen at hs
    have hd : decide ((5000 : Int) < (s.size : Int)) = true := by simp; omega
    go_enter Try.func4, Try.ntmps4
    go_wp2_with fail
    refine (AW.out _).mono ?_
    rintro e w1 ⟨rfl, b1⟩
    go_wp2_with fail
    go_ret
    exact ⟨rfl, b1⟩
  · have hd : decide ((5000 : Int) < (s.size : Int)) = false := by simp; omega
    have C1 := Lib.hid fun w => tokens_any s w (by omega)
    clear hs
    cases hr : lex s with
    | error x =>
      have hno : nameOk s = false := by
        cases hn : nameOk s with
        | false => rfl
        | true => rw [name_of s hn] at hr; cases hr
      have hx0 : (x == 0) = false := by
        have := lex_err hr
        simp
        omega
      rw [hr] at C1
      have N1 : Hid (∀ w, Calls Try.prog 19 #[.string s] w fun e w' => e = .returned (.bool false) ∧ w = w') := fun w => by
        have h := isName_any s w (by unfold maxLen; omega)
        rw [hno] at h
        exact h
      have N2 : Hid (∀ w, Calls Try.prog 20 #[.string s] w fun e w' => e = .returned (.bool false) ∧ Below w.heap.size w w') := fun w => by
        have h := refIsName_any s w (by unfold maxLen; omega)
        rw [hno] at h
        exact h
      clear hno
      clear hr
      go_enter Try.func4, Try.ntmps4
      go_wp2_with fail
      refine (C1.out _).mono ?_
      rintro e w1 ⟨v1, rfl, o1, b1⟩
      have B1 := Lib.hid b1
      have he : LexErr (Except.error x) = x := rfl
      rw [he]
      clear o1 b1 he
      go_wp2_with fail
      refine (N1.out _).mono ?_
      rintro e w' ⟨rfl, rfl⟩
      go_wp2_with fail
      refine (N2.out _).mono ?_
      rintro e w2 ⟨rfl, b2⟩
      have B2 := Lib.hid (chain0 B1.out b2)
      clear b2 B1
      go_wp2_with fail
      refine (N1.out _).mono ?_
      rintro e w' ⟨rfl, rfl⟩
      go_wp2_with fail
      refine (AW.out _).mono ?_
      rintro e w4 ⟨rfl, b4⟩
      have B4 := Lib.hid (chain0 B2.out b4)
      clear b4 B2
      go_wp2_with fail
      go_ret
      exact ⟨rfl, B4.out⟩
    | ok l =>
      rw [hr] at C1
      have he : LexErr (Except.ok l) = 0 := rfl
      have hll : LexToks (Except.ok l) = l := rfl
      have hlen : l.length ≤ 5000 := by
        have := lex_len s (by omega)
        rw [hr] at this
        exact this
      by_cases h1 : l.length = 1
      · obtain ⟨t, rfl⟩ : ∃ t, l = [t] := by
          match l, h1 with
          | [t], _ => exact ⟨t, rfl⟩
        by_cases hk : t.kind = 1
        · by_cases ht : t.text = s
          · have hno : nameOk s = true := name_back s t hr hk ht
            have N1 : Hid (∀ w, Calls Try.prog 19 #[.string s] w fun e w' => e = .returned (.bool true) ∧ w = w') := fun w => by
              have h := isName_any s w (by unfold maxLen; omega)
              rw [hno] at h
              exact h
            have N2 : Hid (∀ w, Calls Try.prog 20 #[.string s] w fun e w' => e = .returned (.bool true) ∧ Below w.heap.size w w') := fun w => by
              have h := refIsName_any s w (by unfold maxLen; omega)
              rw [hno] at h
              exact h
            clear hno
            clear hr
            go_enter Try.func4, Try.ntmps4
            go_wp2_with fail
            refine (C1.out _).mono ?_
            rintro e w1 ⟨v1, rfl, o1, b1⟩
            rw [hll] at o1
            obtain ⟨A, c, rfl, hc, hm, hrow⟩ := own_scan o1
            obtain ⟨b, o, cs, rfl, hk2, hr2⟩ := hrow (by simp)
            have ec := hr2.at_ 0 (by simp)
            simp only [Nat.zero_mul, Nat.add_zero, List.getElem_cons_zero, hk, ht] at ec
            have hlt := hk2.lt
            have B1 := Lib.hid b1
            have HM := Lib.hid hm
            have HC := Lib.hid hc
            rw [he]
            clear o1 b1 he hll hm hc hrow hk2 hr2 hk ht
            go_wp2_with fail
            refine (N1.out _).mono ?_
            rintro e w' ⟨rfl, rfl⟩
            go_wp2_with fail
            refine (N2.out _).mono ?_
            rintro e w2 ⟨rfl, b2⟩
            have B2 := Lib.hid (chain0 B1.out b2)
            clear b2 B1
            go_wp2_with fail
            refine (N1.out _).mono ?_
            rintro e w' ⟨rfl, rfl⟩
            go_wp2_with fail
            refine (AW.out _).mono ?_
            rintro e w4 ⟨rfl, b4⟩
            have B4 := Lib.hid (chain0 B2.out b4)
            clear b4 B2
            go_wp2_with fail
            go_ret
            exact ⟨rfl, B4.out⟩
          · have hno : nameOk s = false := by
              cases hn : nameOk s with
              | false => rfl
              | true =>
                have := name_of s hn
                rw [hr] at this
                injection this with h2
                injection h2 with h3
                subst h3
                exact absurd rfl ht
            have hne := toList_of_ne ht
            have N1 : Hid (∀ w, Calls Try.prog 19 #[.string s] w fun e w' => e = .returned (.bool false) ∧ w = w') := fun w => by
              have h := isName_any s w (by unfold maxLen; omega)
              rw [hno] at h
              exact h
            have N2 : Hid (∀ w, Calls Try.prog 20 #[.string s] w fun e w' => e = .returned (.bool false) ∧ Below w.heap.size w w') := fun w => by
              have h := refIsName_any s w (by unfold maxLen; omega)
              rw [hno] at h
              exact h
            clear hno
            clear hr
            go_enter Try.func4, Try.ntmps4
            go_wp2_with fail
            refine (C1.out _).mono ?_
            rintro e w1 ⟨v1, rfl, o1, b1⟩
            rw [hll] at o1
            obtain ⟨A, c, rfl, hc, hm, hrow⟩ := own_scan o1
            obtain ⟨b, o, cs, rfl, hk2, hr2⟩ := hrow (by simp)
            have ec := hr2.at_ 0 (by simp)
            simp only [Nat.zero_mul, Nat.add_zero, List.getElem_cons_zero, hk] at ec
            have hlt := hk2.lt
            have B1 := Lib.hid b1
            have HM := Lib.hid hm
            have HC := Lib.hid hc
            rw [he]
            clear o1 b1 he hll hm hc hrow hk2 hr2 hk ht
            go_wp2_with fail
            refine (N1.out _).mono ?_
            rintro e w' ⟨rfl, rfl⟩
            go_wp2_with fail
            refine (N2.out _).mono ?_
            rintro e w2 ⟨rfl, b2⟩
            have B2 := Lib.hid (chain0 B1.out b2)
            clear b2 B1
            go_wp2_with fail
            refine (N1.out _).mono ?_
            rintro e w' ⟨rfl, rfl⟩
            go_wp2_with fail
            refine (AW.out _).mono ?_
            rintro e w4 ⟨rfl, b4⟩
            have B4 := Lib.hid (chain0 B2.out b4)
            clear b4 B2
            go_wp2_with fail
            go_ret
            exact ⟨rfl, B4.out⟩
        · have hno : nameOk s = false := by
            cases hn : nameOk s with
            | false => rfl
            | true =>
              have := name_of s hn
              rw [hr] at this
              injection this with h2
              injection h2 with h3
              subst h3
              exact absurd rfl hk
          have hne : (t.kind == 1) = false := by simpa using hk
          have N1 : Hid (∀ w, Calls Try.prog 19 #[.string s] w fun e w' => e = .returned (.bool false) ∧ w = w') := fun w => by
            have h := isName_any s w (by unfold maxLen; omega)
            rw [hno] at h
            exact h
          have N2 : Hid (∀ w, Calls Try.prog 20 #[.string s] w fun e w' => e = .returned (.bool false) ∧ Below w.heap.size w w') := fun w => by
            have h := refIsName_any s w (by unfold maxLen; omega)
            rw [hno] at h
            exact h
          clear hno
          clear hr
          go_enter Try.func4, Try.ntmps4
          go_wp2_with fail
          refine (C1.out _).mono ?_
          rintro e w1 ⟨v1, rfl, o1, b1⟩
          rw [hll] at o1
          obtain ⟨A, c, rfl, hc, hm, hrow⟩ := own_scan o1
          obtain ⟨b, o, cs, rfl, hk2, hr2⟩ := hrow (by simp)
          have ec := hr2.at_ 0 (by simp)
          simp only [Nat.zero_mul, Nat.add_zero, List.getElem_cons_zero] at ec
          have hlt := hk2.lt
          have B1 := Lib.hid b1
          have HM := Lib.hid hm
          have HC := Lib.hid hc
          rw [he]
          clear o1 b1 he hll hm hc hrow hk2 hr2 hk
          go_wp2_with fail
          refine (N1.out _).mono ?_
          rintro e w' ⟨rfl, rfl⟩
          go_wp2_with fail
          refine (N2.out _).mono ?_
          rintro e w2 ⟨rfl, b2⟩
          have B2 := Lib.hid (chain0 B1.out b2)
          clear b2 B1
          go_wp2_with fail
          refine (N1.out _).mono ?_
          rintro e w' ⟨rfl, rfl⟩
          go_wp2_with fail
          refine (AW.out _).mono ?_
          rintro e w4 ⟨rfl, b4⟩
          have B4 := Lib.hid (chain0 B2.out b4)
          clear b4 B2
          go_wp2_with fail
          go_ret
          exact ⟨rfl, B4.out⟩
      · have hno : nameOk s = false := by
          cases hn : nameOk s with
          | false => rfl
          | true =>
            have := name_of s hn
            rw [hr] at this
            injection this with h2
            subst h2
            exact absurd rfl h1
        have hne : ((l.length : Int) == 1) = false := by simp; omega
        have N1 : Hid (∀ w, Calls Try.prog 19 #[.string s] w fun e w' => e = .returned (.bool false) ∧ w = w') := fun w => by
          have h := isName_any s w (by unfold maxLen; omega)
          rw [hno] at h
          exact h
        have N2 : Hid (∀ w, Calls Try.prog 20 #[.string s] w fun e w' => e = .returned (.bool false) ∧ Below w.heap.size w w') := fun w => by
          have h := refIsName_any s w (by unfold maxLen; omega)
          rw [hno] at h
          exact h
        clear hno
        clear hr
        go_enter Try.func4, Try.ntmps4
        go_wp2_with fail
        refine (C1.out _).mono ?_
        rintro e w1 ⟨v1, rfl, o1, b1⟩
        rw [hll] at o1
        obtain ⟨A, c, rfl, hc, hm, hrow⟩ := own_scan o1
        have B1 := Lib.hid b1
        have HM := Lib.hid hm
        rw [he]
        clear o1 b1 he hll hm hc hrow h1
        go_wp2_with fail
        refine (N1.out _).mono ?_
        rintro e w' ⟨rfl, rfl⟩
        go_wp2_with fail
        refine (N2.out _).mono ?_
        rintro e w2 ⟨rfl, b2⟩
        have B2 := Lib.hid (chain0 B1.out b2)
        clear b2 B1
        go_wp2_with fail
        refine (N1.out _).mono ?_
        rintro e w' ⟨rfl, rfl⟩
        go_wp2_with fail
        refine (AW.out _).mono ?_
        rintro e w4 ⟨rfl, b4⟩
        have B4 := Lib.hid (chain0 B2.out b4)
        clear b4 B2
        go_wp2_with fail
        go_ret
        exact ⟨rfl, B4.out⟩
end Lex
end Go.Proofs.Ytabkaaapkcadhaa
