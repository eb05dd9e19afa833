/- Contracts of the lexer's small functions. Printed by gen_lex1.py. -/
import Derived.Test.YtabkaaapkcadhaaRows
import Derived.Test.YtabkaaapkcadhaaBase
import Derived.Test.YtabkaaapkcadhaaLexNum
namespace Go.Proofs.Ytabkaaapkcadhaa
open Go.ChangeShapes Go.WideShapes Go.ChangeAt Go.RowKit
namespace Lex

theorem letter_any (b : UInt8) (w : World) : Calls Try.prog 63 #[.int .i32 (b.toNat : Int)] w fun e w' => e = .returned (.bool (isLet b)) ∧ w = w' := by
  have hb := b.toNat_lt
  unfold isLet
  by_cases h1 : 97 ≤ b.toNat
  · have c1 : decide ((97 : Int) ≤ (b.toNat : Int)) = true := by simp; omega
    by_cases h2 : b.toNat ≤ 122
    · have c2 : decide ((b.toNat : Int) ≤ 122) = true := by simp; omega
      go_enter Try.func63, Try.ntmps63
      go_wp2
      go_ret
      exact ⟨by simp [h1, h2], rfl⟩
    · have c2 : decide ((b.toNat : Int) ≤ 122) = false := by simp; omega
      go_enter Try.func63, Try.ntmps63
      go_wp2
      go_ret
      exact ⟨by simp [h1, h2], rfl⟩
  · have c1 : decide ((97 : Int) ≤ (b.toNat : Int)) = false := by simp; omega
    go_enter Try.func63, Try.ntmps63
    go_wp2
    go_ret
    exact ⟨by simp [h1], rfl⟩

theorem digit_any (b : UInt8) (w : World) : Calls Try.prog 85 #[.int .i32 (b.toNat : Int)] w fun e w' => e = .returned (.bool (isDig b)) ∧ w = w' := by
  have hb := b.toNat_lt
  unfold isDig
  by_cases h1 : 48 ≤ b.toNat
  · have c1 : decide ((48 : Int) ≤ (b.toNat : Int)) = true := by simp; omega
    by_cases h2 : b.toNat ≤ 57
    · have c2 : decide ((b.toNat : Int) ≤ 57) = true := by simp; omega
      go_enter Try.func85, Try.ntmps85
      go_wp2
      go_ret
      exact ⟨by simp [h1, h2], rfl⟩
    · have c2 : decide ((b.toNat : Int) ≤ 57) = false := by simp; omega
      go_enter Try.func85, Try.ntmps85
      go_wp2
      go_ret
      exact ⟨by simp [h1, h2], rfl⟩
  · have c1 : decide ((48 : Int) ≤ (b.toNat : Int)) = false := by simp; omega
    go_enter Try.func85, Try.ntmps85
    go_wp2
    go_ret
    exact ⟨by simp [h1], rfl⟩

theorem rletter_any (b : UInt8) (w : World) : Calls Try.prog 66 #[.int .u8 (b.toNat : Int)] w fun e w' => e = .returned (.bool (isLet b)) ∧ w = w' := by
  have hb := b.toNat_lt
  unfold isLet
  by_cases h1 : 97 ≤ b.toNat
  · have c1 : decide ((97 : Int) ≤ (b.toNat : Int)) = true := by simp; omega
    by_cases h2 : b.toNat ≤ 122
    · have c2 : decide ((b.toNat : Int) ≤ 122) = true := by simp; omega
      go_enter Try.func66, Try.ntmps66
      go_wp2
      go_ret
      exact ⟨by simp [h1, h2], rfl⟩
    · have c2 : decide ((b.toNat : Int) ≤ 122) = false := by simp; omega
      go_enter Try.func66, Try.ntmps66
      go_wp2
      go_ret
      exact ⟨by simp [h1, h2], rfl⟩
  · have c1 : decide ((97 : Int) ≤ (b.toNat : Int)) = false := by simp; omega
    go_enter Try.func66, Try.ntmps66
    go_wp2
    go_ret
    exact ⟨by simp [h1], rfl⟩

theorem rdigit_any (b : UInt8) (w : World) : Calls Try.prog 88 #[.int .u8 (b.toNat : Int)] w fun e w' => e = .returned (.bool (isDig b)) ∧ w = w' := by
  have hb := b.toNat_lt
  unfold isDig
  by_cases h1 : 48 ≤ b.toNat
  · have c1 : decide ((48 : Int) ≤ (b.toNat : Int)) = true := by simp; omega
    by_cases h2 : b.toNat ≤ 57
    · have c2 : decide ((b.toNat : Int) ≤ 57) = true := by simp; omega
      go_enter Try.func88, Try.ntmps88
      go_wp2
      go_ret
      exact ⟨by simp [h1, h2], rfl⟩
    · have c2 : decide ((b.toNat : Int) ≤ 57) = false := by simp; omega
      go_enter Try.func88, Try.ntmps88
      go_wp2
      go_ret
      exact ⟨by simp [h1, h2], rfl⟩
  · have c1 : decide ((48 : Int) ≤ (b.toNat : Int)) = false := by simp; omega
    go_enter Try.func88, Try.ntmps88
    go_wp2
    go_ret
    exact ⟨by simp [h1], rfl⟩

theorem inner_any (b : UInt8) (w : World) : Calls Try.prog 65 #[.int .i32 (b.toNat : Int)] w fun e w' => e = .returned (.bool (isInn b)) ∧ w = w' := by
  have hb := b.toNat_lt
  have CL := Lib.hid (letter_any b)
  have CD := Lib.hid (digit_any b)
  unfold isInn
  cases hl : isLet b with
  | true =>
    go_enter Try.func65, Try.ntmps65
    go_wp2_with (go_at_call 63; refine (CL.out _).mono ?_; rintro e w' ⟨rfl, rfl⟩; rw [hl])
    go_ret
    exact ⟨rfl, rfl⟩
  | false =>
    cases hd : isDig b with
    | true =>
      go_enter Try.func65, Try.ntmps65
      go_wp2_with (first | (go_at_call 63; refine (CL.out _).mono ?_; rintro e w' ⟨rfl, rfl⟩; rw [hl]) | (go_at_call 85; refine (CD.out _).mono ?_; rintro e w' ⟨rfl, rfl⟩; rw [hd]))
      go_ret
      exact ⟨rfl, rfl⟩
    | false =>
      have c1 : ((b.toNat : Int) == 95) = decide (b.toNat = 95) := by
        by_cases h : b.toNat = 95
        · simp [h]
        · simp [h]; omega
      go_enter Try.func65, Try.ntmps65
      go_wp2_with (first | (go_at_call 63; refine (CL.out _).mono ?_; rintro e w' ⟨rfl, rfl⟩; rw [hl]) | (go_at_call 85; refine (CD.out _).mono ?_; rintro e w' ⟨rfl, rfl⟩; rw [hd]))
      go_ret
      exact ⟨by simp, rfl⟩

theorem wrap32_byte (b : UInt8) : wrap32 (b.toNat : Int) = (b.toNat : Int) := by
  have := b.toNat_lt
  unfold wrap32
  omega
/-- the bytes of s from at on that belong together -/
def runLen (p : UInt8 → Bool) (s : ByteArray) (at0 : Nat) : Nat := span p (s.data.toList.drop at0)
theorem runLen_le (p : UInt8 → Bool) (s : ByteArray) (at0 : Nat) (h : at0 ≤ s.size) : at0 + runLen p s at0 ≤ s.size := by
  have := span_le p (s.data.toList.drop at0)
  unfold runLen
  rw [List.length_drop] at this
  have h2 : s.data.toList.length = s.size := rfl
  omega
theorem drop_cons (s : ByteArray) (k : Nat) (h : k < s.size) : s.data.toList.drop k = s[k] :: s.data.toList.drop (k + 1) := by
  rw [List.drop_eq_getElem_cons (by exact h)]; rfl
theorem runLen_yes (p : UInt8 → Bool) (s : ByteArray) (k : Nat) (h : k < s.size) (hp : p s[k] = true) : runLen p s k = runLen p s (k + 1) + 1 := by
  unfold runLen; rw [drop_cons s k h, span_cons hp]
theorem runLen_no (p : UInt8 → Bool) (s : ByteArray) (k : Nat) (h : k < s.size) (hp : p s[k] = false) : runLen p s k = 0 := by
  unfold runLen; rw [drop_cons s k h, span_stop hp]
theorem runLen_end (p : UInt8 → Bool) (s : ByteArray) (k : Nat) (h : s.size ≤ k) : runLen p s k = 0 := by
  unfold runLen; rw [List.drop_eq_nil_of_le (by exact h)]; rfl


theorem run_inner (s : ByteArray) (a : Nat) (w : World) (hs : s.size ≤ maxLen) (ha : a ≤ s.size) :
    Calls Try.prog 64 #[.string s, .int .i64 (a : Int), .func (.func 65) #[] #[]] w fun e w' => e = .returned (.string (s.extract a (a + runLen isInn s a))) ∧ w = w' := by
  unfold maxLen at hs
  have CT := Lib.hid inner_any
  have WB := Lib.hid wrap32_byte
  have RY := Lib.hid (runLen_yes isInn s)
  have RN := Lib.hid (runLen_no isInn s)
  have RE := Lib.hid (runLen_end isInn s)
  go_enter Try.func64, Try.ntmps64
  go_wp2_with fail
  go_loop [7] (fun i => ∃ k : Nat, a ≤ k ∧ k ≤ s.size ∧ i = .int .i64 (k : Int) ∧ a + runLen isInn s a = k + runLen isInn s k) (fun i => s.size - (intOf i).toNat)
  case atStart => exact ⟨a, by omega, by omega, rfl, rfl⟩
  case round =>
    obtain ⟨k, hak, hk, rfl, hr⟩ := hrel
    have HR := Lib.hid hr
    clear hr
    by_cases hlt : k < s.size
    · have hd : decide ((k : Int) < (s.size : Int)) = true := by simp; omega
      cases hp : isInn s[k] with
      | true =>
        go_wp2_with (go_at_call 65; rw [WB.out]; refine (CT.out _ _).mono ?_; rintro e w' ⟨rfl, rfl⟩; rw [hp])
        go_round
        case rel => exact ⟨k + 1, by omega, by omega, by go_num, by rw [HR.out, RY.out k hlt hp]; omega⟩
        case measure => simp [intOf]; omega
      | false =>
        go_wp2_with (go_at_call 65; rw [WB.out]; refine (CT.out _ _).mono ?_; rintro e w' ⟨rfl, rfl⟩; rw [hp])
        go_ret
        have h := RN.out k hlt hp
        have h2 := HR.out
        rw [h] at h2
        exact ⟨by rw [h2]; simp, rfl⟩
    · have hd : decide ((k : Int) < (s.size : Int)) = false := by simp; omega
      go_wp2_with fail
      go_ret
      have h := RE.out k (by omega)
      have h2 := HR.out
      rw [h] at h2
      exact ⟨by rw [h2]; simp, rfl⟩

theorem run_digit (s : ByteArray) (a : Nat) (w : World) (hs : s.size ≤ maxLen) (ha : a ≤ s.size) :
    Calls Try.prog 64 #[.string s, .int .i64 (a : Int), .func (.func 85) #[] #[]] w fun e w' => e = .returned (.string (s.extract a (a + runLen isDig s a))) ∧ w = w' := by
  unfold maxLen at hs
  have CT := Lib.hid digit_any
  have WB := Lib.hid wrap32_byte
  have RY := Lib.hid (runLen_yes isDig s)
  have RN := Lib.hid (runLen_no isDig s)
  have RE := Lib.hid (runLen_end isDig s)
  go_enter Try.func64, Try.ntmps64
  go_wp2_with fail
  go_loop [7] (fun i => ∃ k : Nat, a ≤ k ∧ k ≤ s.size ∧ i = .int .i64 (k : Int) ∧ a + runLen isDig s a = k + runLen isDig s k) (fun i => s.size - (intOf i).toNat)
  case atStart => exact ⟨a, by omega, by omega, rfl, rfl⟩
  case round =>
    obtain ⟨k, hak, hk, rfl, hr⟩ := hrel
    have HR := Lib.hid hr
    clear hr
    by_cases hlt : k < s.size
    · have hd : decide ((k : Int) < (s.size : Int)) = true := by simp; omega
      cases hp : isDig s[k] with
      | true =>
        go_wp2_with (go_at_call 85; rw [WB.out]; refine (CT.out _ _).mono ?_; rintro e w' ⟨rfl, rfl⟩; rw [hp])
        go_round
        case rel => exact ⟨k + 1, by omega, by omega, by go_num, by rw [HR.out, RY.out k hlt hp]; omega⟩
        case measure => simp [intOf]; omega
      | false =>
        go_wp2_with (go_at_call 85; rw [WB.out]; refine (CT.out _ _).mono ?_; rintro e w' ⟨rfl, rfl⟩; rw [hp])
        go_ret
        have h := RN.out k hlt hp
        have h2 := HR.out
        rw [h] at h2
        exact ⟨by rw [h2]; simp, rfl⟩
    · have hd : decide ((k : Int) < (s.size : Int)) = false := by simp; omega
      go_wp2_with fail
      go_ret
      have h := RE.out k (by omega)
      have h2 := HR.out
      rw [h] at h2
      exact ⟨by rw [h2]; simp, rfl⟩

end Lex
end Go.Proofs.Ytabkaaapkcadhaa
