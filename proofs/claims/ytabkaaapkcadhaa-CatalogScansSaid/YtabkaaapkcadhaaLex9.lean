/- Contract of one, all cases joined. -/
import Derived.Test.YtabkaaapkcadhaaLex8
import Derived.Test.YtabkaaapkcadhaaLexT
namespace Go.Proofs.Ytabkaaapkcadhaa
open Go.ChangeShapes Go.WideShapes Go.ChangeAt Go.RowKit
set_option linter.unusedVariables false
set_option linter.unusedSimpArgs false
namespace Lex
theorem span_head {p : UInt8 → Bool} {b : UInt8} {l : List UInt8} (h : p b = true) : span p l + 1 = span p (b :: l) := (span_cons h).symm
theorem inn_of_let {b : UInt8} (h : isLet b = true) : isInn b = true := by simp [isInn, h]
theorem span_all (p : UInt8 → Bool) : ∀ (l : List UInt8) (i : Nat) (h : i < span p l) (h2 : i < l.length), p l[i] = true
  | [], _, h, _ => by simp [span] at h
  | b :: l, i, h, h2 => by
    unfold span at h
    split at h
    · rename_i hb
      cases i with
      | zero => exact hb
      | succ i => exact span_all p l i (by omega) (by simpa using h2)
    · omega
theorem extract_get (s : ByteArray) (a n k : Nat) (h : a + n ≤ s.size) (hk : k < (s.extract a (a + n)).size) : (s.extract a (a + n))[k] = s.data.toList[a + k]'(by simp at hk; simp; omega) := by
  simp [ByteArray.getElem_eq_getElem_data]

theorem one_any (s : ByteArray) (a : Nat) (w : World) (hs : s.size ≤ 5000) (ha : a < s.size) (p : Piece) (h : one (s.data.toList.drop a) = .ok p) :
    Calls Try.prog 61 #[.string s, .int .i64 (a : Int)] w fun e w' => e = .returned (.tuple #[.agg #[.int .i64 (p.kind : Int), .string (s.extract a (a + p.len)), .int .i64 (p.value : Int), .int .i64 (a : Int)], .int .i64 0]) ∧ Below w.heap.size w w' := by
  rw [drop_cons s a ha] at h
  simp only [one] at h
  have hrun : ∀ q, q s[a] = true → runLen q s a = span q (s.data.toList.drop (a + 1)) + 1 := fun q hq => by
    unfold runLen
    rw [drop_cons s a ha, span_cons hq]
  cases hl : isLet s[a] with
  | true =>
    rw [if_pos hl] at h
    have hr := hrun isInn (inn_of_let hl)
    split at h
    · cases h
    · injection h with h
      subst h
      have := one_word s a w hs ha hl (by omega)
      rw [hr] at this
      exact this
  | false =>
    rw [if_neg (by simp [hl])] at h
    cases hg : isDig s[a] with
    | true =>
      rw [if_pos hg] at h
      have hr := hrun isDig hg
      split at h
      · cases h
      · rename_i hz
        split at h
        · cases h
        · rename_i h9
          injection h with h
          subst h
          have hle := runLen_le isDig s a (by omega)
          have hsz : (s.extract a (a + runLen isDig s a)).size = runLen isDig s a := by simp; omega
          have hn := fun w => number_good (s.extract a (a + runLen isDig s a)) w (by omega)
            (fun h1 => by
              rw [extract_get s a _ 0 hle]
              have e0 : s.data.toList[a + 0]'(by simp; omega) = s[a] := rfl
              rw [e0]
              intro h48
              exact hz ⟨by omega, h48⟩)
            (fun k hk => by
              rw [extract_get s a _ k hle]
              have hkk : k < span isDig (s.data.toList.drop a) := by rw [hsz] at hk; exact hk
              have := span_all isDig (s.data.toList.drop a) k hkk (by have := span_le isDig (s.data.toList.drop a); omega)
              simpa using this)
          have := one_num s (s.extract a (a + runLen isDig s a)) a w hs ha hl hg rfl _ hn
          rw [hr] at this
          have e : (s.extract a (a + (span isDig (s.data.toList.drop (a + 1)) + 1))).data.toList = (s[a] :: s.data.toList.drop (a + 1)).take (span isDig (s.data.toList.drop (a + 1)) + 1) := by
            rw [← drop_cons s a ha]
            simp [List.extract]
          rw [e] at this
          exact this
    | false =>
      rw [if_neg (by simp [hg])] at h
      cases hm : isMark s[a] with
      | true =>
        rw [if_pos hm] at h
        injection h with h
        subst h
        exact one_mark s a w hs ha hl hg hm
      | false =>
        rw [if_neg (by simp [hm])] at h
        cases h
theorem one_bad (s : ByteArray) (a : Nat) (w : World) (hs : s.size ≤ 5000) (ha : a < s.size) (x : Int) (h : one (s.data.toList.drop a) = .error x) :
    Calls Try.prog 61 #[.string s, .int .i64 (a : Int)] w fun e w' => e = .returned (.tuple #[.agg #[.int .i64 0, .string ⟨#[]⟩, .int .i64 0, .int .i64 0], .int .i64 x]) ∧ Below w.heap.size w w' := by
  rw [drop_cons s a ha] at h
  simp only [one] at h
  have hrun : ∀ q, q s[a] = true → runLen q s a = span q (s.data.toList.drop (a + 1)) + 1 := fun q hq => by
    unfold runLen
    rw [drop_cons s a ha, span_cons hq]
  cases hl : isLet s[a] with
  | true =>
    rw [if_pos hl] at h
    have hr := hrun isInn (inn_of_let hl)
    split at h
    · injection h with h
      subst h
      exact one_long s a w hs ha hl (by omega)
    · cases h
  | false =>
    rw [if_neg (by simp [hl])] at h
    cases hg : isDig s[a] with
    | true =>
      rw [if_pos hg] at h
      have hr := hrun isDig hg
      have hle := runLen_le isDig s a (by omega)
      have hsz : (s.extract a (a + runLen isDig s a)).size = runLen isDig s a := by simp; omega
      have e0 : ∀ h, (s.extract a (a + runLen isDig s a))[0]'h = s[a] := fun h => extract_get s a _ 0 hle h
      split at h
      · rename_i hz
        injection h with h
        subst h
        exact one_numerr s (s.extract a (a + runLen isDig s a)) a w hs ha hl hg rfl 2 (.inl rfl) (fun w => number_zero _ w (by unfold maxLen; omega) (by omega) (by rw [e0]; exact hz.2))
      · rename_i hz
        split at h
        · rename_i h9
          injection h with h
          subst h
          exact one_numerr s (s.extract a (a + runLen isDig s a)) a w hs ha hl hg rfl 4 (.inr rfl) (fun w => number_long _ w (by unfold maxLen; omega) (by omega) (by rw [e0]; intro h48; exact hz ⟨by omega, h48⟩))
        · cases h
    | false =>
      rw [if_neg (by simp [hg])] at h
      cases hm : isMark s[a] with
      | true =>
        rw [if_pos hm] at h
        cases h
      | false =>
        rw [if_neg (by simp [hm])] at h
        injection h with h
        subst h
        exact one_none s a w hs ha hl hg hm
end Lex
end Go.Proofs.Ytabkaaapkcadhaa
