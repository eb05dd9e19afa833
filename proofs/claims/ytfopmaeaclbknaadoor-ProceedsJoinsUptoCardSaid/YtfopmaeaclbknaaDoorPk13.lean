/- Plain lists: what the lexer computes. Contracts of the lexer's small functions. Printed by gen_lex1.py. Contracts of number, mark, ContainsRune. Contracts of the searches for a byte and a rune in a string. Contract of strings.ContainsRune on the marks, and of the reference's mark. Contract of the reference's mark. Printed by gen_lex5.py. Contract of one. Contract of one: numbers. Contract of one: marks and the rest. Plain: tokens, and what Tokens computes. Contract of one, all cases joined. Contract of Tokens. -/
import Derived.Test.YtfopmaeaclbknaaDoorRows
import Derived.Test.YtfopmaeaclbknaaDoorPk00
import Derived.Laws.Externs
import Derived.Laws.Runes
import Derived.Lib.Bytealg
import Derived.Laws.Rows
namespace Go.Proofs.YtfopmaeaclbknaaDoor
namespace Lex
def isLet (b : UInt8) : Bool := decide (97 ≤ b.toNat) && decide (b.toNat ≤ 122)
def isDig (b : UInt8) : Bool := decide (48 ≤ b.toNat) && decide (b.toNat ≤ 57)
def isInn (b : UInt8) : Bool := isLet b || (isDig b || decide (b.toNat = 95))
def isMark (b : UInt8) : Bool := decide (b.toNat ∈ [123, 125, 40, 41, 44, 58, 64, 43, 45, 61])
/-- how many bytes at the beginning belong together -/
def span (p : UInt8 → Bool) : List UInt8 → Nat
  | [] => 0
  | b :: l => if p b then span p l + 1 else 0
theorem span_le (p : UInt8 → Bool) : ∀ l, span p l ≤ l.length
  | [] => Nat.le_refl _
  | b :: l => by
    unfold span
    split
    · have := span_le p l; simp; omega
    · simp
theorem span_cons {p : UInt8 → Bool} {b : UInt8} {l : List UInt8} (h : p b = true) : span p (b :: l) = span p l + 1 := by simp [span, h]
theorem span_stop {p : UInt8 → Bool} {b : UInt8} {l : List UInt8} (h : p b = false) : span p (b :: l) = 0 := by simp [span, h]
/-- the value of digits -/
def val (l : List UInt8) : Nat := l.foldl (fun v b => v * 10 + (b.toNat - 48)) 0
theorem val_snoc (l : List UInt8) (b : UInt8) : val (l ++ [b]) = val l * 10 + (b.toNat - 48) := by simp [val]
/-- a token without its text: kind, length, value; or an error -/
structure Piece where
  kind : Nat
  len : Nat
  value : Nat
def one : List UInt8 → Except Int Piece
  | [] => .error 2
  | b :: l =>
    if isLet b then (if 12 < span isInn l + 1 then .error 3 else .ok ⟨1, span isInn l + 1, 0⟩)
    else if isDig b then
      (if 1 < span isDig l + 1 ∧ b.toNat = 48 then .error 2
       else if 9 < span isDig l + 1 then .error 4
       else .ok ⟨2, span isDig l + 1, val ((b :: l).take (span isDig l + 1))⟩)
    else if isMark b then .ok ⟨3, 1, 0⟩
    else .error 2
theorem one_len {l : List UInt8} {p : Piece} (h : one l = .ok p) : 1 ≤ p.len ∧ p.len ≤ l.length := by
  cases l with
  | nil => cases h
  | cons b l =>
    have h1 := span_le isInn l
    have h2 := span_le isDig l
    simp only [one] at h
    repeat' split at h
    all_goals first
      | (cases h; done)
      | (injection h with h; subst h; simp; omega)
      | (injection h with h; subst h; simp)
end Lex
end Go.Proofs.YtfopmaeaclbknaaDoor
namespace Go.Proofs.YtfopmaeaclbknaaDoor
open Go.ChangeShapes Go.WideShapes Go.ChangeAt Go.RowKit
namespace Lex

theorem letter_any (b : UInt8) (w : World) : Calls Tryd.prog 136 #[.int .i32 (b.toNat : Int)] w fun e w' => e = .returned (.bool (isLet b)) ∧ w = w' := by
  have hb := b.toNat_lt
  unfold isLet
  by_cases h1 : 97 ≤ b.toNat
  · have c1 : decide ((97 : Int) ≤ (b.toNat : Int)) = true := by simp; omega
    by_cases h2 : b.toNat ≤ 122
    · have c2 : decide ((b.toNat : Int) ≤ 122) = true := by simp; omega
      go_enter Tryd.func136, Tryd.ntmps136
      go_wp2
      go_ret
      exact ⟨by simp [h1, h2], rfl⟩
    · have c2 : decide ((b.toNat : Int) ≤ 122) = false := by simp; omega
      go_enter Tryd.func136, Tryd.ntmps136
      go_wp2
      go_ret
      exact ⟨by simp [h1, h2], rfl⟩
  · have c1 : decide ((97 : Int) ≤ (b.toNat : Int)) = false := by simp; omega
    go_enter Tryd.func136, Tryd.ntmps136
    go_wp2
    go_ret
    exact ⟨by simp [h1], rfl⟩

theorem digit_any (b : UInt8) (w : World) : Calls Tryd.prog 145 #[.int .i32 (b.toNat : Int)] w fun e w' => e = .returned (.bool (isDig b)) ∧ w = w' := by
  have hb := b.toNat_lt
  unfold isDig
  by_cases h1 : 48 ≤ b.toNat
  · have c1 : decide ((48 : Int) ≤ (b.toNat : Int)) = true := by simp; omega
    by_cases h2 : b.toNat ≤ 57
    · have c2 : decide ((b.toNat : Int) ≤ 57) = true := by simp; omega
      go_enter Tryd.func145, Tryd.ntmps145
      go_wp2
      go_ret
      exact ⟨by simp [h1, h2], rfl⟩
    · have c2 : decide ((b.toNat : Int) ≤ 57) = false := by simp; omega
      go_enter Tryd.func145, Tryd.ntmps145
      go_wp2
      go_ret
      exact ⟨by simp [h1, h2], rfl⟩
  · have c1 : decide ((48 : Int) ≤ (b.toNat : Int)) = false := by simp; omega
    go_enter Tryd.func145, Tryd.ntmps145
    go_wp2
    go_ret
    exact ⟨by simp [h1], rfl⟩

theorem rletter_any (b : UInt8) (w : World) : Calls Tryd.prog 88 #[.int .u8 (b.toNat : Int)] w fun e w' => e = .returned (.bool (isLet b)) ∧ w = w' := by
  have hb := b.toNat_lt
  unfold isLet
  by_cases h1 : 97 ≤ b.toNat
  · have c1 : decide ((97 : Int) ≤ (b.toNat : Int)) = true := by simp; omega
    by_cases h2 : b.toNat ≤ 122
    · have c2 : decide ((b.toNat : Int) ≤ 122) = true := by simp; omega
      go_enter Tryd.func88, Tryd.ntmps88
      go_wp2
      go_ret
      exact ⟨by simp [h1, h2], rfl⟩
    · have c2 : decide ((b.toNat : Int) ≤ 122) = false := by simp; omega
      go_enter Tryd.func88, Tryd.ntmps88
      go_wp2
      go_ret
      exact ⟨by simp [h1, h2], rfl⟩
  · have c1 : decide ((97 : Int) ≤ (b.toNat : Int)) = false := by simp; omega
    go_enter Tryd.func88, Tryd.ntmps88
    go_wp2
    go_ret
    exact ⟨by simp [h1], rfl⟩

theorem rdigit_any (b : UInt8) (w : World) : Calls Tryd.prog 118 #[.int .u8 (b.toNat : Int)] w fun e w' => e = .returned (.bool (isDig b)) ∧ w = w' := by
  have hb := b.toNat_lt
  unfold isDig
  by_cases h1 : 48 ≤ b.toNat
  · have c1 : decide ((48 : Int) ≤ (b.toNat : Int)) = true := by simp; omega
    by_cases h2 : b.toNat ≤ 57
    · have c2 : decide ((b.toNat : Int) ≤ 57) = true := by simp; omega
      go_enter Tryd.func118, Tryd.ntmps118
      go_wp2
      go_ret
      exact ⟨by simp [h1, h2], rfl⟩
    · have c2 : decide ((b.toNat : Int) ≤ 57) = false := by simp; omega
      go_enter Tryd.func118, Tryd.ntmps118
      go_wp2
      go_ret
      exact ⟨by simp [h1, h2], rfl⟩
  · have c1 : decide ((48 : Int) ≤ (b.toNat : Int)) = false := by simp; omega
    go_enter Tryd.func118, Tryd.ntmps118
    go_wp2
    go_ret
    exact ⟨by simp [h1], rfl⟩

theorem inner_any (b : UInt8) (w : World) : Calls Tryd.prog 138 #[.int .i32 (b.toNat : Int)] w fun e w' => e = .returned (.bool (isInn b)) ∧ w = w' := by
  have hb := b.toNat_lt
  have CL := Lib.hid (letter_any b)
  have CD := Lib.hid (digit_any b)
  unfold isInn
  cases hl : isLet b with
  | true =>
    go_enter Tryd.func138, Tryd.ntmps138
    go_wp2_with (go_at_call 136; refine (CL.out _).mono ?_; rintro e w' ⟨rfl, rfl⟩; rw [hl])
    go_ret
    exact ⟨rfl, rfl⟩
  | false =>
    cases hd : isDig b with
    | true =>
      go_enter Tryd.func138, Tryd.ntmps138
      go_wp2_with (first | (go_at_call 136; refine (CL.out _).mono ?_; rintro e w' ⟨rfl, rfl⟩; rw [hl]) | (go_at_call 145; refine (CD.out _).mono ?_; rintro e w' ⟨rfl, rfl⟩; rw [hd]))
      go_ret
      exact ⟨rfl, rfl⟩
    | false =>
      have c1 : ((b.toNat : Int) == 95) = decide (b.toNat = 95) := by
        by_cases h : b.toNat = 95
        · simp [h]
        · simp [h]; omega
      go_enter Tryd.func138, Tryd.ntmps138
      go_wp2_with (first | (go_at_call 136; refine (CL.out _).mono ?_; rintro e w' ⟨rfl, rfl⟩; rw [hl]) | (go_at_call 145; refine (CD.out _).mono ?_; rintro e w' ⟨rfl, rfl⟩; rw [hd]))
      go_ret
      exact ⟨by simp, rfl⟩

theorem wrap32_byte (b : UInt8) : wrap32 (b.toNat : Int) = (b.toNat : Int) := by
  have := b.toNat_lt
  unfold wrap32
  omega
/-- the bytes of s from at on that belong together -/
def runLen (p : UInt8 → Bool) (s : ByteArray) (at0 : Nat) : Nat := span p (s.data.toList.drop at0)
theorem runLen_le (p : UInt8 → Bool) (s : ByteArray) (at0 : Nat) (h : at0 ≤ s.size) : at0 + runLen p s at0 ≤ s.size := by
  have := span_le p (s.data.toList.drop at0)
  unfold runLen
  rw [List.length_drop] at this
  have h2 : s.data.toList.length = s.size := rfl
  omega
theorem drop_cons (s : ByteArray) (k : Nat) (h : k < s.size) : s.data.toList.drop k = s[k] :: s.data.toList.drop (k + 1) := by
  rw [List.drop_eq_getElem_cons (by exact h)]; rfl
theorem runLen_yes (p : UInt8 → Bool) (s : ByteArray) (k : Nat) (h : k < s.size) (hp : p s[k] = true) : runLen p s k = runLen p s (k + 1) + 1 := by
  unfold runLen; rw [drop_cons s k h, span_cons hp]
theorem runLen_no (p : UInt8 → Bool) (s : ByteArray) (k : Nat) (h : k < s.size) (hp : p s[k] = false) : runLen p s k = 0 := by
  unfold runLen; rw [drop_cons s k h, span_stop hp]
theorem runLen_end (p : UInt8 → Bool) (s : ByteArray) (k : Nat) (h : s.size ≤ k) : runLen p s k = 0 := by
  unfold runLen; rw [List.drop_eq_nil_of_le (by exact h)]; rfl


theorem run_inner (s : ByteArray) (a : Nat) (w : World) (hs : s.size ≤ maxLen) (ha : a ≤ s.size) :
    Calls Tryd.prog 137 #[.string s, .int .i64 (a : Int), .func (.func 138) #[] #[]] w fun e w' => e = .returned (.string (s.extract a (a + runLen isInn s a))) ∧ w = w' := by
  unfold maxLen at hs
  have CT := Lib.hid inner_any
  have WB := Lib.hid wrap32_byte
  have RY := Lib.hid (runLen_yes isInn s)
  have RN := Lib.hid (runLen_no isInn s)
  have RE := Lib.hid (runLen_end isInn s)
  go_enter Tryd.func137, Tryd.ntmps137
  go_wp2_with fail
  go_loop [7] (fun i => ∃ k : Nat, a ≤ k ∧ k ≤ s.size ∧ i = .int .i64 (k : Int) ∧ a + runLen isInn s a = k + runLen isInn s k) (fun i => s.size - (intOf i).toNat)
  case atStart => exact ⟨a, by omega, by omega, rfl, rfl⟩
  case round =>
    obtain ⟨k, hak, hk, rfl, hr⟩ := hrel
    have HR := Lib.hid hr
    clear hr
    by_cases hlt : k < s.size
    · have hd : decide ((k : Int) < (s.size : Int)) = true := by simp; omega
      cases hp : isInn s[k] with
      | true =>
        go_wp2_with (go_at_call 138; rw [WB.out]; refine (CT.out _ _).mono ?_; rintro e w' ⟨rfl, rfl⟩; rw [hp])
        go_round
        case rel => exact ⟨k + 1, by omega, by omega, by go_num, by rw [HR.out, RY.out k hlt hp]; omega⟩
        case measure => simp [intOf]; omega
      | false =>
        go_wp2_with (go_at_call 138; rw [WB.out]; refine (CT.out _ _).mono ?_; rintro e w' ⟨rfl, rfl⟩; rw [hp])
        go_ret
        have h := RN.out k hlt hp
        have h2 := HR.out
        rw [h] at h2
        exact ⟨by rw [h2]; simp, rfl⟩
    · have hd : decide ((k : Int) < (s.size : Int)) = false := by simp; omega
      go_wp2_with fail
      go_ret
      have h := RE.out k (by omega)
      have h2 := HR.out
      rw [h] at h2
      exact ⟨by rw [h2]; simp, rfl⟩

theorem run_digit (s : ByteArray) (a : Nat) (w : World) (hs : s.size ≤ maxLen) (ha : a ≤ s.size) :
    Calls Tryd.prog 137 #[.string s, .int .i64 (a : Int), .func (.func 145) #[] #[]] w fun e w' => e = .returned (.string (s.extract a (a + runLen isDig s a))) ∧ w = w' := by
  unfold maxLen at hs
  have CT := Lib.hid digit_any
  have WB := Lib.hid wrap32_byte
  have RY := Lib.hid (runLen_yes isDig s)
  have RN := Lib.hid (runLen_no isDig s)
  have RE := Lib.hid (runLen_end isDig s)
  go_enter Tryd.func137, Tryd.ntmps137
  go_wp2_with fail
  go_loop [7] (fun i => ∃ k : Nat, a ≤ k ∧ k ≤ s.size ∧ i = .int .i64 (k : Int) ∧ a + runLen isDig s a = k + runLen isDig s k) (fun i => s.size - (intOf i).toNat)
  case atStart => exact ⟨a, by omega, by omega, rfl, rfl⟩
  case round =>
    obtain ⟨k, hak, hk, rfl, hr⟩ := hrel
    have HR := Lib.hid hr
    clear hr
    by_cases hlt : k < s.size
    · have hd : decide ((k : Int) < (s.size : Int)) = true := by simp; omega
      cases hp : isDig s[k] with
      | true =>
        go_wp2_with (go_at_call 145; rw [WB.out]; refine (CT.out _ _).mono ?_; rintro e w' ⟨rfl, rfl⟩; rw [hp])
        go_round
        case rel => exact ⟨k + 1, by omega, by omega, by go_num, by rw [HR.out, RY.out k hlt hp]; omega⟩
        case measure => simp [intOf]; omega
      | false =>
        go_wp2_with (go_at_call 145; rw [WB.out]; refine (CT.out _ _).mono ?_; rintro e w' ⟨rfl, rfl⟩; rw [hp])
        go_ret
        have h := RN.out k hlt hp
        have h2 := HR.out
        rw [h] at h2
        exact ⟨by rw [h2]; simp, rfl⟩
    · have hd : decide ((k : Int) < (s.size : Int)) = false := by simp; omega
      go_wp2_with fail
      go_ret
      have h := RE.out k (by omega)
      have h2 := HR.out
      rw [h] at h2
      exact ⟨by rw [h2]; simp, rfl⟩

end Lex
end Go.Proofs.YtfopmaeaclbknaaDoor
namespace Go.Proofs.YtfopmaeaclbknaaDoor
open Go.ChangeShapes Go.WideShapes Go.ChangeAt Go.RowKit
namespace Lex

/-- the value of the first k bytes -/
def valT (t : ByteArray) (k : Nat) : Nat := val (t.data.toList.take k)
theorem valT_snoc (t : ByteArray) (k : Nat) (h : k < t.size) : valT t (k + 1) = valT t k * 10 + (t[k].toNat - 48) := by
  unfold valT
  rw [List.take_add_one, List.getElem?_eq_getElem (by exact h)]
  exact val_snoc _ _
theorem dig_le {b : UInt8} (h : isDig b = true) : 48 ≤ b.toNat ∧ b.toNat ≤ 57 := by
  unfold isDig at h
  simpa using h
theorem valT_lt (t : ByteArray) (hd : ∀ k (h : k < t.size), isDig t[k] = true) : ∀ k, k ≤ t.size → valT t k + 1 ≤ 10 ^ k
  | 0, _ => by simp [valT, val]
  | k + 1, h => by
    have h1 := valT_lt t hd k (by omega)
    rw [valT_snoc t k (by omega), Nat.pow_succ]
    have h2 := dig_le (hd k (by omega))
    omega
theorem valT_small (t : ByteArray) (hd : ∀ k (h : k < t.size), isDig t[k] = true) (hs : t.size ≤ 9) (k : Nat) (hk : k ≤ t.size) : valT t k < 1000000000 := by
  have h1 := valT_lt t hd k hk
  have h2 : 10 ^ k ≤ 10 ^ 9 := Nat.pow_le_pow_right (by omega) (by omega)
  omega
theorem valT_end (t : ByteArray) (k : Nat) (h : t.size ≤ k) : valT t k = val t.data.toList := by
  unfold valT
  rw [List.take_of_length_le (by exact h)]

end Lex
end Go.Proofs.YtfopmaeaclbknaaDoor
namespace Go.Proofs.YtfopmaeaclbknaaDoor
open Go.ChangeShapes Go.WideShapes Go.ChangeAt Go.RowKit
namespace Lex

theorem drewN_below (w : World) (n : Nat) : Below w.heap.size w (w.drewN n) := ⟨rfl, rfl, rfl, Nat.le_refl _, fun _ _ => rfl⟩
/-- the marks -/
def marks : ByteArray := ⟨#[123, 125, 40, 41, 44, 58, 64, 43, 45, 61]⟩
theorem enc_high (b : UInt8) (h : 128 ≤ b.toNat) : ∃ r : ByteArray, Utf8.encode (b.toNat : Int) = r ∧ r.size = 2 ∧ ∀ h, 128 ≤ (r[1]'h).toNat := by
  have hb := b.toNat_lt
  have hv : Utf8.valid (b.toNat : Int) = true := by rw [validRune_eq]; unfold validRune; simp; omega
  refine ⟨⟨#[UInt8.ofNat (192 + b.toNat / 64), UInt8.ofNat (128 + b.toNat % 64)]⟩, ?_, rfl, fun _ => ?_⟩
  · unfold Utf8.encode
    have h1 : ¬ b.toNat < 128 := by omega
    have h2 : b.toNat < 2048 := by omega
    simp [hv, h1, h2]
  · show 128 ≤ (UInt8.ofNat (128 + b.toNat % 64)).toNat
    simp; omega
theorem marks_none (c : UInt8) (h : 128 ≤ c.toNat) (a e : Nat) : Lib.indexByte (marks.extract a e).data.toList c = -1 := by
  rw [← Lib.firstIdx_eq]
  exact firstIdx_ascii marks a e c (by decide +kernel) h
end Lex
end Go.Proofs.YtfopmaeaclbknaaDoor
namespace Go.Proofs.YtfopmaeaclbknaaDoor
open Go.ChangeShapes Go.WideShapes Go.ChangeAt Go.RowKit
namespace Lex
theorem marks_low (b : UInt8) (_h : b.toNat < 128) : decide ((0 : Int) ≤ Lib.indexByte marks.data.toList ((b.toNat : Int).toNat.toUInt8)) = isMark b := by
  have e : ((b.toNat : Int).toNat.toUInt8) = b := by simp
  rw [e]
  have key : ∀ n : Fin 256, decide ((0 : Int) ≤ Lib.indexByte marks.data.toList (UInt8.ofNat n.val)) = isMark (UInt8.ofNat n.val) := by decide +kernel
  have := key ⟨b.toNat, b.toNat_lt⟩
  simpa using this
theorem mark_high (b : UInt8) (h : 128 ≤ b.toNat) : isMark b = false := by
  unfold isMark
  simp
  omega
end Lex
end Go.Proofs.YtfopmaeaclbknaaDoor
namespace Go.Proofs.YtfopmaeaclbknaaDoor
open Go.ChangeShapes Go.WideShapes Go.ChangeAt Go.RowKit
namespace Lex
set_option maxHeartbeats 4000000 in
theorem rmark_any (b : UInt8) (w : World) : Calls Tryd.prog 119 #[.int .u8 (b.toNat : Int)] w fun e w' => e = .returned (.bool (isMark b)) ∧ w = w' := by
  have hb := b.toNat_lt
  by_cases h0 : b.toNat = 123
  · have c0 : ((123 : Int) == (b.toNat : Int)) = true := by simp; omega
    have hm : isMark b = true := by unfold isMark; simp [h0]
    go_enter Tryd.func119, Tryd.ntmps119
    go_wp2_with fail
    refine wp_loop_rounds 1 ?_
    iterate 1 (rw [rounds_succ]; go_wp2_with fail)
    go_ret
    exact ⟨by rw [hm]; rfl, rfl⟩
  have c0 : ((123 : Int) == (b.toNat : Int)) = false := by simp; omega
  have d0 : ((((⟨#[123, 125, 40, 41, 58, 44, 64, 43, 45, 61]⟩ : ByteArray)[0]'(by decide)).toNat : Int) == (b.toNat : Int)) = false := c0
  by_cases h1 : b.toNat = 125
  · have c1 : ((125 : Int) == (b.toNat : Int)) = true := by simp; omega
    have hm : isMark b = true := by unfold isMark; simp [h1]
    go_enter Tryd.func119, Tryd.ntmps119
    go_wp2_with fail
    refine wp_loop_rounds 2 ?_
    iterate 2 (rw [rounds_succ]; go_wp2_with fail)
    go_ret
    exact ⟨by rw [hm]; rfl, rfl⟩
  have c1 : ((125 : Int) == (b.toNat : Int)) = false := by simp; omega
  have d1 : ((((⟨#[123, 125, 40, 41, 58, 44, 64, 43, 45, 61]⟩ : ByteArray)[1]'(by decide)).toNat : Int) == (b.toNat : Int)) = false := c1
  by_cases h2 : b.toNat = 40
  · have c2 : ((40 : Int) == (b.toNat : Int)) = true := by simp; omega
    have hm : isMark b = true := by unfold isMark; simp [h2]
    go_enter Tryd.func119, Tryd.ntmps119
    go_wp2_with fail
    refine wp_loop_rounds 3 ?_
    iterate 3 (rw [rounds_succ]; go_wp2_with fail)
    go_ret
    exact ⟨by rw [hm]; rfl, rfl⟩
  have c2 : ((40 : Int) == (b.toNat : Int)) = false := by simp; omega
  have d2 : ((((⟨#[123, 125, 40, 41, 58, 44, 64, 43, 45, 61]⟩ : ByteArray)[2]'(by decide)).toNat : Int) == (b.toNat : Int)) = false := c2
  by_cases h3 : b.toNat = 41
  · have c3 : ((41 : Int) == (b.toNat : Int)) = true := by simp; omega
    have hm : isMark b = true := by unfold isMark; simp [h3]
    go_enter Tryd.func119, Tryd.ntmps119
    go_wp2_with fail
    refine wp_loop_rounds 4 ?_
    iterate 4 (rw [rounds_succ]; go_wp2_with fail)
    go_ret
    exact ⟨by rw [hm]; rfl, rfl⟩
  have c3 : ((41 : Int) == (b.toNat : Int)) = false := by simp; omega
  have d3 : ((((⟨#[123, 125, 40, 41, 58, 44, 64, 43, 45, 61]⟩ : ByteArray)[3]'(by decide)).toNat : Int) == (b.toNat : Int)) = false := c3
  by_cases h4 : b.toNat = 58
  · have c4 : ((58 : Int) == (b.toNat : Int)) = true := by simp; omega
    have hm : isMark b = true := by unfold isMark; simp [h4]
    go_enter Tryd.func119, Tryd.ntmps119
    go_wp2_with fail
    refine wp_loop_rounds 5 ?_
    iterate 5 (rw [rounds_succ]; go_wp2_with fail)
    go_ret
    exact ⟨by rw [hm]; rfl, rfl⟩
  have c4 : ((58 : Int) == (b.toNat : Int)) = false := by simp; omega
  have d4 : ((((⟨#[123, 125, 40, 41, 58, 44, 64, 43, 45, 61]⟩ : ByteArray)[4]'(by decide)).toNat : Int) == (b.toNat : Int)) = false := c4
  by_cases h5 : b.toNat = 44
  · have c5 : ((44 : Int) == (b.toNat : Int)) = true := by simp; omega
    have hm : isMark b = true := by unfold isMark; simp [h5]
    go_enter Tryd.func119, Tryd.ntmps119
    go_wp2_with fail
    refine wp_loop_rounds 6 ?_
    iterate 6 (rw [rounds_succ]; go_wp2_with fail)
    go_ret
    exact ⟨by rw [hm]; rfl, rfl⟩
  have c5 : ((44 : Int) == (b.toNat : Int)) = false := by simp; omega
  have d5 : ((((⟨#[123, 125, 40, 41, 58, 44, 64, 43, 45, 61]⟩ : ByteArray)[5]'(by decide)).toNat : Int) == (b.toNat : Int)) = false := c5
  by_cases h6 : b.toNat = 64
  · have c6 : ((64 : Int) == (b.toNat : Int)) = true := by simp; omega
    have hm : isMark b = true := by unfold isMark; simp [h6]
    go_enter Tryd.func119, Tryd.ntmps119
    go_wp2_with fail
    refine wp_loop_rounds 7 ?_
    iterate 7 (rw [rounds_succ]; go_wp2_with fail)
    go_ret
    exact ⟨by rw [hm]; rfl, rfl⟩
  have c6 : ((64 : Int) == (b.toNat : Int)) = false := by simp; omega
  have d6 : ((((⟨#[123, 125, 40, 41, 58, 44, 64, 43, 45, 61]⟩ : ByteArray)[6]'(by decide)).toNat : Int) == (b.toNat : Int)) = false := c6
  by_cases h7 : b.toNat = 43
  · have c7 : ((43 : Int) == (b.toNat : Int)) = true := by simp; omega
    have hm : isMark b = true := by unfold isMark; simp [h7]
    go_enter Tryd.func119, Tryd.ntmps119
    go_wp2_with fail
    refine wp_loop_rounds 8 ?_
    iterate 8 (rw [rounds_succ]; go_wp2_with fail)
    go_ret
    exact ⟨by rw [hm]; rfl, rfl⟩
  have c7 : ((43 : Int) == (b.toNat : Int)) = false := by simp; omega
  have d7 : ((((⟨#[123, 125, 40, 41, 58, 44, 64, 43, 45, 61]⟩ : ByteArray)[7]'(by decide)).toNat : Int) == (b.toNat : Int)) = false := c7
  by_cases h8 : b.toNat = 45
  · have c8 : ((45 : Int) == (b.toNat : Int)) = true := by simp; omega
    have hm : isMark b = true := by unfold isMark; simp [h8]
    go_enter Tryd.func119, Tryd.ntmps119
    go_wp2_with fail
    refine wp_loop_rounds 9 ?_
    iterate 9 (rw [rounds_succ]; go_wp2_with fail)
    go_ret
    exact ⟨by rw [hm]; rfl, rfl⟩
  have c8 : ((45 : Int) == (b.toNat : Int)) = false := by simp; omega
  have d8 : ((((⟨#[123, 125, 40, 41, 58, 44, 64, 43, 45, 61]⟩ : ByteArray)[8]'(by decide)).toNat : Int) == (b.toNat : Int)) = false := c8
  by_cases h9 : b.toNat = 61
  · have c9 : ((61 : Int) == (b.toNat : Int)) = true := by simp; omega
    have hm : isMark b = true := by unfold isMark; simp [h9]
    go_enter Tryd.func119, Tryd.ntmps119
    go_wp2_with fail
    refine wp_loop_rounds 10 ?_
    iterate 10 (rw [rounds_succ]; go_wp2_with fail)
    go_ret
    exact ⟨by rw [hm]; rfl, rfl⟩
  have c9 : ((61 : Int) == (b.toNat : Int)) = false := by simp; omega
  have d9 : ((((⟨#[123, 125, 40, 41, 58, 44, 64, 43, 45, 61]⟩ : ByteArray)[9]'(by decide)).toNat : Int) == (b.toNat : Int)) = false := c9
  have hm : isMark b = false := by unfold isMark; simp; omega
  go_enter Tryd.func119, Tryd.ntmps119
  go_wp2_with fail
  refine wp_loop_rounds 11 ?_
  iterate 11 (rw [rounds_succ]; go_wp2_with fail)
  go_ret
  exact ⟨by rw [hm]; rfl, rfl⟩
end Lex
end Go.Proofs.YtfopmaeaclbknaaDoor
namespace Go.Proofs.YtfopmaeaclbknaaDoor
open Go.ChangeShapes Go.WideShapes Go.ChangeAt Go.RowKit
namespace Lex
theorem results_cell_row_tmp {P : Program} {fn : Func} {p u : Tmp} {ty : TypeId} (h : fn.results = #[.cell p ty, .tmp u]) (tmps : Array Value) (w : World) (g : Nat) (t : TypeId) (cs : Array Value) (fr : Nat × Nat) (d : TypeDesc)
    (hp : tmps.getD p undef = .pointer (some ⟨g, 0, none⟩)) (hg : w.heap[g]? = some (.cells cs t fr))
    (hu : P.underlying ty = some d) (hd : (match d with | .struct _ | .array _ _ => true | _ => false) = true) (hi : (P.info? ty).map (·.size) = some cs.size) {x : Value} (hx : tmps.getD u undef = x) :
    (results fn tmps).run P w = .ok (.tuple #[.agg cs, x]) w := by
  subst hx
  have hp' : tmps[p]?.getD undef = .pointer (some ⟨g, 0, none⟩) := by simpa using hp
  simp [results, h, hp', asAddr, run_loadVar_row w g t ty cs fr d hg hu hd hi]
theorem heap_two (w : World) (o o' : Obj) : ((w.alloc o).alloc o').heap[w.heap.size]? = some o := by
  show ((w.heap.push o).push o')[w.heap.size]? = some o
  rw [Array.getElem?_push]
  simp
end Lex
end Go.Proofs.YtfopmaeaclbknaaDoor
namespace Go.Proofs.YtfopmaeaclbknaaDoor
open Go.ChangeShapes Go.WideShapes Go.ChangeAt Go.RowKit
namespace Lex
end Lex
end Go.Proofs.YtfopmaeaclbknaaDoor
namespace Go.Proofs.YtfopmaeaclbknaaDoor
open Go.ChangeShapes Go.WideShapes Go.ChangeAt Go.RowKit
set_option linter.unusedVariables false
set_option linter.unusedSimpArgs false
namespace Lex
end Lex
end Go.Proofs.YtfopmaeaclbknaaDoor
namespace Go.Proofs.YtfopmaeaclbknaaDoor
open Go.ChangeShapes Go.WideShapes Go.ChangeAt Go.RowKit
namespace Lex
structure Tok where
  kind : Int
  text : ByteArray
  value : Int
  pos : Int
def Tok.none : Tok := ⟨0, ⟨#[]⟩, 0, 0⟩
abbrev Tok.cells (t : Tok) : List Value := [.int .i64 t.kind, .string t.text, .int .i64 t.value, .int .i64 t.pos]
def cellsOf (l : List Tok) : List Value := l.flatMap Tok.cells
theorem cellsOf_snoc (l : List Tok) (t : Tok) : cellsOf (l ++ [t]) = cellsOf l ++ t.cells := by simp [cellsOf]
theorem cellsOf_len (l : List Tok) : (cellsOf l).length = l.length * 4 := by
  unfold cellsOf
  induction l with
  | nil => rfl
  | cons t l ih =>
    rw [List.flatMap_cons, List.length_append, ih, List.length_cons]
    show 4 + _ = _
    rw [List.length_cons]
    omega
theorem cellsOf_at (l : List Tok) (i : Nat) (hi : i < l.length) : (cellsOf l)[i * 4]? = some (.int .i64 l[i].kind) ∧ (cellsOf l)[i * 4 + 1]? = some (.string l[i].text) ∧ (cellsOf l)[i * 4 + 2]? = some (.int .i64 l[i].value) ∧ (cellsOf l)[i * 4 + 3]? = some (.int .i64 l[i].pos) := by
  induction l generalizing i with
  | nil => simp at hi
  | cons t l ih =>
    cases i with
    | zero => simp [cellsOf]
    | succ i =>
      have h := ih i (by simpa using hi)
      have e : ∀ j, (cellsOf (t :: l))[(i + 1) * 4 + j]? = (cellsOf l)[i * 4 + j]? := by
        intro j
        rw [show (i + 1) * 4 + j = 4 + (i * 4 + j) by omega]
        show (t.cells ++ cellsOf l)[4 + (i * 4 + j)]? = _
        rw [List.getElem?_append_right (by simp)]
        simp
      have e0 := e 0
      simp only [Nat.add_zero] at e0
      rw [e0, e 1, e 2, e 3]
      exact h
/-- a row of tokens in memory -/
def TokRow (w : World) (b o : Nat) (L : List Tok) : Prop := ∀ j u, (cellsOf L)[j]? = some u → w.cell? ⟨b, o + j, none⟩ = some u
theorem TokRow.at_ {w : World} {b o : Nat} {L : List Tok} (h : TokRow w b o L) (k : Nat) (hk : k < L.length) :
    w.cell? ⟨b, o + k * 4, none⟩ = some (.int .i64 L[k].kind) ∧ w.cell? ⟨b, o + k * 4 + 1, none⟩ = some (.string L[k].text) ∧ w.cell? ⟨b, o + k * 4 + 2, none⟩ = some (.int .i64 L[k].value) ∧ w.cell? ⟨b, o + k * 4 + 3, none⟩ = some (.int .i64 L[k].pos) := by
  obtain ⟨e0, e1, e2, e3⟩ := cellsOf_at L k hk
  exact ⟨h _ _ e0, h _ _ e1, h _ _ e2, h _ _ e3⟩
/-- a token and an error number -/
def oneTok (s : ByteArray) (a : Nat) (p : Piece) : Tok := ⟨p.kind, s.extract a (a + p.len), p.value, a⟩
def lexGo (s : ByteArray) : Nat → Nat → List Tok → Except Int (List Tok)
  | 0, _, l => .ok l
  | f + 1, k, l =>
    if h : k < s.size then
      if s[k].toNat = 32 then lexGo s f (k + 1) l
      else match one (s.data.toList.drop k) with
        | .error e => .error e
        | .ok p => lexGo s f (k + p.len) (l ++ [oneTok s k p])
    else .ok l
def lex (s : ByteArray) : Except Int (List Tok) := if 4000 < s.size then .error 3 else lexGo s (s.size + 1) 0 []
theorem lexGo_space {s : ByteArray} {f k : Nat} {l : List Tok} (h : k < s.size) (h1 : s[k].toNat = 32) : lexGo s (f + 1) k l = lexGo s f (k + 1) l := by
  simp only [lexGo, dif_pos h, if_pos h1]
theorem lexGo_tok {s : ByteArray} {f k : Nat} {l : List Tok} {p : Piece} (h : k < s.size) (h1 : ¬ s[k].toNat = 32) (h2 : one (s.data.toList.drop k) = .ok p) : lexGo s (f + 1) k l = lexGo s f (k + p.len) (l ++ [oneTok s k p]) := by
  simp only [lexGo, dif_pos h, if_neg h1, h2]
theorem lexGo_err {s : ByteArray} {f k : Nat} {l : List Tok} {e : Int} (h : k < s.size) (h1 : ¬ s[k].toNat = 32) (h2 : one (s.data.toList.drop k) = .error e) : lexGo s (f + 1) k l = .error e := by
  simp only [lexGo, dif_pos h, if_neg h1, h2]
theorem lexGo_end {s : ByteArray} {f k : Nat} {l : List Tok} (h : s.size ≤ k) : lexGo s f k l = .ok l := by
  cases f with
  | zero => rfl
  | succ f => simp only [lexGo, dif_neg (show ¬ k < s.size by omega)]
theorem one_err {l : List UInt8} {e : Int} (h : one l = .error e) : e = 2 ∨ e = 3 ∨ e = 4 := by
  cases l with
  | nil => injection h with h; exact .inl h.symm
  | cons b l =>
    simp only [one] at h
    repeat' split at h
    all_goals first
      | (cases h; done)
      | (injection h with h; subst h; simp)
end Lex
end Go.Proofs.YtfopmaeaclbknaaDoor
namespace Go.Proofs.YtfopmaeaclbknaaDoor
open Go.ChangeShapes Go.WideShapes Go.ChangeAt Go.RowKit
set_option linter.unusedVariables false
set_option linter.unusedSimpArgs false
namespace Lex
theorem span_head {p : UInt8 → Bool} {b : UInt8} {l : List UInt8} (h : p b = true) : span p l + 1 = span p (b :: l) := (span_cons h).symm
theorem inn_of_let {b : UInt8} (h : isLet b = true) : isInn b = true := by simp [isInn, h]
theorem span_all (p : UInt8 → Bool) : ∀ (l : List UInt8) (i : Nat) (h : i < span p l) (h2 : i < l.length), p l[i] = true
  | [], _, h, _ => by simp [span] at h
  | b :: l, i, h, h2 => by
    unfold span at h
    split at h
    · rename_i hb
      cases i with
      | zero => exact hb
      | succ i => exact span_all p l i (by omega) (by simpa using h2)
    · omega
theorem extract_get (s : ByteArray) (a n k : Nat) (h : a + n ≤ s.size) (hk : k < (s.extract a (a + n)).size) : (s.extract a (a + n))[k] = s.data.toList[a + k]'(by simp at hk; simp; omega) := by
  simp [ByteArray.getElem_eq_getElem_data]

end Lex
end Go.Proofs.YtfopmaeaclbknaaDoor
namespace Go.Proofs.YtfopmaeaclbknaaDoor
open Go.ChangeShapes Go.WideShapes Go.ChangeAt Go.RowKit
namespace Lex
theorem four_new (w : World) (a b c d : Value) (t : TypeId) : ∀ j u, [a, b, c, d][j]? = some u → (w.alloc (.cells #[a, b, c, d] t)).cell? ((⟨w.heap.size, 0, none⟩ : Addr).add j) = some u := by
  intro j u h
  have hb := Blk.new w t #[a, b, c, d]
  have e : (⟨w.heap.size, 0, none⟩ : Addr).add j = ⟨w.heap.size, j, none⟩ := by
    unfold Addr.add
    split
    · rename_i e; subst e; rfl
    · simp
  rw [e, hb.cell j]
  simpa using h
theorem one_cells4 {a b c d : Value} (ha : a.oneCell' = true) (hb : b.oneCell' = true) (hc : c.oneCell' = true) (hd : d.oneCell' = true) : ∀ u ∈ [a, b, c, d], u.oneCell' = true := by
  intro u hu
  simp at hu
  rcases hu with rfl | rfl | rfl | rfl <;> assumption
def LexErr (r : Except Int (List Tok)) : Int := match r with | .ok _ => 0 | .error e => e
def LexToks (r : Except Int (List Tok)) : List Tok := match r with | .ok l => l | .error _ => []
/-- what Tokens comes to -/
def TokPost (t : TypeId) (r : Except Int (List Tok)) (w : World) (e : Ending) (w' : World) : Prop :=
  ∃ v, e = .returned (.tuple #[v, .int .i64 (LexErr r)]) ∧ w'.ownsRow w.heap.size t 4 v (LexToks r).length (cellsOf (LexToks r)) ∧ Below w.heap.size w w'
theorem TokPost.bad {t : TypeId} {x : Int} {w w' : World} (h : Below w.heap.size w w') : TokPost t (.error x) w (.returned (.tuple #[.slice none 0 0, .int .i64 x])) w' :=
  ⟨_, rfl, World.ownsRow_nil _ _ _ _, h⟩
theorem TokPost.good {t : TypeId} {l : List Tok} {v : Value} {w w' : World} (ho : w'.ownsRow w.heap.size t 4 v l.length (cellsOf l)) (h : Below w.heap.size w w') : TokPost t (.ok l) w (.returned (.tuple #[v, .int .i64 0])) w' :=
  ⟨_, rfl, ho, h⟩
end Lex
end Go.Proofs.YtfopmaeaclbknaaDoor
