/- The laws on Tokens and names: walks. -/
import Derived.Test.YtabkaaapkcadhaaLexK
import Derived.Test.YtabkaaapkcadhaaLexQ
namespace Go.Proofs.Ytabkaaapkcadhaa
open Go.ChangeShapes Go.WideShapes Go.ChangeAt Go.RowKit
namespace Lex
theorem lexGo_err0 (s : ByteArray) : ∀ (f k : Nat) (l : List Tok) (x : Int), lexGo s f k l = .error x → x = 2 ∨ x = 3 ∨ x = 4
  | 0, k, l, x, h => by cases h
  | f + 1, k, l, x, h => by
    by_cases hlt : k < s.size
    · by_cases h32 : s[k].toNat = 32
      · rw [lexGo_space hlt h32] at h
        exact lexGo_err0 s f _ _ x h
      · cases ho : one (s.data.toList.drop k) with
        | error y =>
          rw [lexGo_err hlt h32 ho] at h
          injection h with h
          subst h
          exact one_err ho
        | ok p =>
          rw [lexGo_tok hlt h32 ho] at h
          exact lexGo_err0 s f _ _ x h
    · rw [lexGo_end (by omega)] at h
      cases h
theorem lex_err {s : ByteArray} {x : Int} (h : lex s = .error x) : x = 2 ∨ x = 3 ∨ x = 4 := by
  unfold lex at h
  split at h
  · injection h with h; subst h; exact .inr (.inl rfl)
  · exact lexGo_err0 s _ _ _ x h
theorem tokens_any (s : ByteArray) (w : World) (hs : s.size ≤ 5000) : Calls Try.prog 16 #[.string s] w (TokPost 33 (lex s) w) := by
  by_cases h : 4000 < s.size
  · exact tokens_long s w (by unfold maxLen; omega) h
  · exact tokens_short s w (by omega)
theorem refTokens_any (s : ByteArray) (w : World) (hs : s.size ≤ 5000) : Calls Try.prog 17 #[.string s] w (TokPost 34 (lex s) w) := by
  by_cases h : 4000 < s.size
  · exact refTokens_long s w (by unfold maxLen; omega) h
  · exact refTokens_short s w (by omega)
theorem law_big (s : ByteArray) (w : World) (hs : s.size ≤ maxLen) (h : 5000 < s.size) : Calls Try.prog 3 #[.string s] w fun e w' => e = .returned (.bool true) ∧ Below w.heap.size w w' := by
  unfold maxLen at hs
  have hd : decide ((5000 : Int) < (s.size : Int)) = true := by simp; omega
  have AW := Lib.hid awake_any
  go_enter Try.func3, Try.ntmps3
  go_wp2_with fail
  refine (AW.out _).mono ?_
  rintro e w1 ⟨rfl, b1⟩
  go_wp2_with fail
  go_ret
  exact ⟨rfl, b1⟩
theorem law_tokens (s : ByteArray) (w : World) (hs : s.size ≤ maxLen) : Calls Try.prog 3 #[.string s] w fun e w' => e = .returned (.bool true) ∧ Below w.heap.size w w' := by
  by_cases h : 5000 < s.size
  · exact law_big s w hs h
  · have hd : decide ((5000 : Int) < (s.size : Int)) = false := by simp; omega
    have AW := Lib.hid awake_any
    have HL := Lib.hid (show (LexToks (lex s)).length ≤ 5000 from lex_len s (by omega))
    have C1 := Lib.hid fun w => tokens_any s w (by omega)
    have C2 := Lib.hid fun w => refTokens_any s w (by omega)
    unfold TokPost at C1 C2
    generalize lex s = r at *
    go_enter Try.func3, Try.ntmps3
    go_wp2_with fail
    refine (C1.out _).mono ?_
    rintro e w1 ⟨v1, rfl, o1, b1⟩
    have O1 := Lib.hid o1
    have B1 := Lib.hid b1
    clear o1 b1
    go_wp2_with fail
    refine (C2.out _).mono ?_
    rintro e w2 ⟨v2, rfl, o2, b2⟩
    have O2 := Lib.hid o2
    have O1 := Lib.hid (own_below O1.out b2)
    have B2 := Lib.hid (chain0 B1.out b2)
    clear o2 b2 B1
    go_wp2_with fail
    refine (like_same _ _ _ _ HL.out (Sl.of_own O1.out) (Sl.of_own O2.out)).mono ?_
    rintro e w3 ⟨rfl, b3⟩
    have B3 := Lib.hid (chain0 B2.out b3)
    clear b3 B2
    go_wp2_with fail
    refine (AW.out _).mono ?_
    rintro e w4 ⟨rfl, b4⟩
    have B4 := Lib.hid (chain0 B3.out b4)
    clear b4 B3
    go_wp2_with fail
    go_ret
    exact ⟨rfl, B4.out⟩
end Lex
end Go.Proofs.Ytabkaaapkcadhaa
