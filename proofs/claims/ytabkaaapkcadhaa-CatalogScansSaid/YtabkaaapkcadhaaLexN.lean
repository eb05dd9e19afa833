/- Contracts of IsName. -/
import Derived.Test.YtabkaaapkcadhaaLexM
namespace Go.Proofs.Ytabkaaapkcadhaa
open Go.ChangeShapes Go.WideShapes Go.ChangeAt Go.RowKit
namespace Lex
/-- a word and nothing else, of 1 to 12 bytes -/
def nameOk (s : ByteArray) : Bool := decide (0 < s.size) && (decide (s.size ≤ 12) && ((s.data.toList.head?.any isLet) && decide (runLen isInn s 0 = s.size)))
theorem empty_of (s : ByteArray) (h : s.size = 0) : s = ⟨#[]⟩ := by
  obtain ⟨⟨l⟩⟩ := s
  cases l with
  | nil => rfl
  | cons a l => simp [ByteArray.size] at h
theorem bytes_ne_nil {s : ByteArray} (h : 0 < s.size) : (s.toList == ([] : List UInt8)) = false := by
  rw [ByteArray.toList_eq]
  obtain ⟨⟨l⟩⟩ := s
  cases l with
  | nil => simp [ByteArray.size] at h
  | cons a l => rfl
theorem bytes_isEmpty {s : ByteArray} (h : 0 < s.size) : s.toList.isEmpty = false := by
  rw [ByteArray.toList_eq]
  obtain ⟨⟨l⟩⟩ := s
  cases l with
  | nil => simp [ByteArray.size] at h
  | cons a l => rfl
theorem head_any (s : ByteArray) (h : 0 < s.size) : s.data.toList.head?.any isLet = isLet s[0] := by
  rw [toList_cons s h]
  rfl
theorem extract_all (s : ByteArray) : s.extract 0 s.size = s := by
  obtain ⟨⟨l⟩⟩ := s
  apply ByteArray.ext
  simp [ByteArray.size]
theorem extract_run_ne (s : ByteArray) (h : runLen isInn s 0 ≠ s.size) (hl : 0 + runLen isInn s 0 ≤ s.size) : s.extract 0 (0 + runLen isInn s 0) ≠ s := by
  intro e
  have := congrArg ByteArray.size e
  simp at this
  omega
theorem isName_any (s : ByteArray) (w : World) (hs : s.size ≤ maxLen) : Calls Try.prog 19 #[.string s] w fun e w' => e = .returned (.bool (nameOk s)) ∧ w = w' := by
  unfold maxLen at hs
  by_cases h0 : s.size = 0
  · obtain rfl := empty_of s h0
    have HN : Hid (nameOk ⟨#[]⟩ = false) := rfl
    generalize nameOk ⟨#[]⟩ = r at *
    go_enter Try.func19, Try.ntmps19
    go_wp2_with fail
    go_ret
    exact ⟨by rw [HN.out]; rfl, rfl⟩
  · have hp : 0 < s.size := by omega
    have hn : nameOk s = (decide (s.size ≤ 12) && (isLet s[0] && decide (runLen isInn s 0 = s.size))) := by
      unfold nameOk
      rw [decide_eq_true hp, head_any s hp, Bool.true_and]
    have HN := Lib.hid hn
    have h1 := bytes_ne_nil hp
    have h2 := bytes_isEmpty hp
    have hle := runLen_le isInn s 0 (by omega)
    have CL := Lib.hid (letter_any s[0])
    have WB := Lib.hid (wrap32_byte s[0])
    have CR := Lib.hid (fun w => run_inner s 0 w (by unfold maxLen; omega) (by omega))
    clear hn
    by_cases h12 : s.size ≤ 12
    · have d12 : decide ((s.size : Int) ≤ 12) = true := by simp; omega
      cases hl : isLet s[0] with
      | false =>
        go_enter Try.func19, Try.ntmps19
        go_wp2_with (go_at_call 63; (try rw [WB.out]); refine (CL.out _).mono ?_; rintro e w' ⟨rfl, rfl⟩; rw [hl])
        go_ret
        exact ⟨by rw [HN.out, hl]; simp, rfl⟩
      | true =>
        by_cases hr : runLen isInn s 0 = s.size
        · have HR := Lib.hid hr
          have he : (s.extract 0 (0 + runLen isInn s 0)) = s := by rw [Nat.zero_add, hr]; exact extract_all s
          rw [he] at CR
          clear hr he hle
          go_enter Try.func19, Try.ntmps19
          go_wp2_with (first | (go_at_call 63; (try rw [WB.out]); refine (CL.out _).mono ?_; rintro e w' ⟨rfl, rfl⟩; rw [hl]) | (go_at_call 64; refine (CR.out _).mono ?_; rintro e w' ⟨rfl, rfl⟩))
          go_ret
          exact ⟨by rw [HN.out, hl]; simp [HR.out, h12], rfl⟩
        · have hne := toList_of_ne (extract_run_ne s hr hle)
          have HR := Lib.hid hr
          generalize s.extract 0 (0 + runLen isInn s 0) = t at *
          clear hr hle
          go_enter Try.func19, Try.ntmps19
          go_wp2_with (first | (go_at_call 63; (try rw [WB.out]); refine (CL.out _).mono ?_; rintro e w' ⟨rfl, rfl⟩; rw [hl]) | (go_at_call 64; refine (CR.out _).mono ?_; rintro e w' ⟨rfl, rfl⟩))
          go_ret
          exact ⟨by rw [HN.out, hl]; simp [HR.out], rfl⟩
    · have d12 : decide ((s.size : Int) ≤ 12) = false := by simp; omega
      go_enter Try.func19, Try.ntmps19
      go_wp2_with fail
      go_ret
      exact ⟨by rw [HN.out]; simp [h12], rfl⟩
theorem one_name (s : ByteArray) (hp : 0 < s.size) (hl : isLet s[0] = true) : one s.data.toList = if 12 < runLen isInn s 0 then .error 3 else .ok ⟨1, runLen isInn s 0, 0⟩ := by
  have h1 : runLen isInn s 0 = span isInn (s.data.toList.drop 1) + 1 := by
    unfold runLen
    rw [drop_cons s 0 hp, span_cons (inn_of_let hl)]
  rw [h1]
  have h2 := toList_cons s hp
  generalize s.data.toList.drop 1 = l at *
  rw [h2]
  simp only [one, if_pos hl]
theorem refIsName_any (s : ByteArray) (w : World) (hs : s.size ≤ maxLen) : Calls Try.prog 20 #[.string s] w fun e w' => e = .returned (.bool (nameOk s)) ∧ Below w.heap.size w w' := by
  unfold maxLen at hs
  by_cases h0 : s.size = 0
  · obtain rfl := empty_of s h0
    have HN : Hid (nameOk ⟨#[]⟩ = false) := rfl
    generalize nameOk ⟨#[]⟩ = r at *
    go_enter Try.func20, Try.ntmps20
    go_wp2_with fail
    go_ret
    exact ⟨by rw [HN.out]; rfl, Below.refl _ _⟩
  · have hp : 0 < s.size := by omega
    have hn : nameOk s = (decide (s.size ≤ 12) && (isLet s[0] && decide (runLen isInn s 0 = s.size))) := by
      unfold nameOk
      rw [decide_eq_true hp, head_any s hp, Bool.true_and]
    have HN := Lib.hid hn
    have h1 := bytes_ne_nil hp
    have h2 := bytes_isEmpty hp
    have hle := runLen_le isInn s 0 (by omega)
    have CL := Lib.hid (rletter_any s[0])
    clear hn
    by_cases h12 : s.size ≤ 12
    · have d12 : decide ((12 : Int) < (s.size : Int)) = false := by simp; omega
      cases hl : isLet s[0] with
      | false =>
        go_enter Try.func20, Try.ntmps20
        go_wp2_with (go_at_call 66; refine (CL.out _).mono ?_; rintro e w' ⟨rfl, rfl⟩; rw [hl])
        go_ret
        exact ⟨by rw [HN.out, hl]; simp, Below.refl _ _⟩
      | true =>
        have ho := one_name s hp hl
        rw [if_neg (by omega)] at ho
        have CO : Hid (∀ w, Calls Try.prog 62 #[.string s] w fun e w' => e = .returned (.tuple #[.agg #[.int .i64 1, .string (s.extract 0 (runLen isInn s 0)), .int .i64 0, .int .i64 0], .int .i64 0]) ∧ Below w.heap.size w w') := by
          intro w
          refine (refOne_any s w (by unfold maxLen; omega) hp).mono fun e w' he => ?_
          unfold OneR at he
          rw [ho] at he
          exact he
        clear ho
        by_cases hr : runLen isInn s 0 = s.size
        · have HR := Lib.hid hr
          have he : (s.extract 0 (runLen isInn s 0)) = s := by rw [hr]; exact extract_all s
          rw [he] at CO
          clear hr he hle
          go_enter Try.func20, Try.ntmps20
          go_wp2_with (first | (go_at_call 66; refine (CL.out _).mono ?_; rintro e w' ⟨rfl, rfl⟩; rw [hl]) | (go_at_call 62; refine (CO.out _).mono ?_; rintro e w' ⟨rfl, b1⟩))
          go_ret
          exact ⟨by rw [HN.out, hl]; simp [HR.out, h12], by first | exact b1 | exact b1.alloc b1.size _⟩
        · have hne := toList_of_ne (extract_run_ne s hr hle)
          have HR := Lib.hid hr
          rw [Nat.zero_add] at hne
          generalize s.extract 0 (runLen isInn s 0) = t at *
          clear hr hle
          go_enter Try.func20, Try.ntmps20
          go_wp2_with (first | (go_at_call 66; refine (CL.out _).mono ?_; rintro e w' ⟨rfl, rfl⟩; rw [hl]) | (go_at_call 62; refine (CO.out _).mono ?_; rintro e w' ⟨rfl, b1⟩))
          go_ret
          exact ⟨by rw [HN.out, hl]; simp [HR.out], by first | exact b1 | exact b1.alloc b1.size _⟩
    · have d12 : decide ((12 : Int) < (s.size : Int)) = true := by simp; omega
      go_enter Try.func20, Try.ntmps20
      go_wp2_with fail
      go_ret
      exact ⟨by rw [HN.out]; simp [h12], Below.refl _ _⟩
end Lex
end Go.Proofs.Ytabkaaapkcadhaa
