/- Plain: the lexer on a text that is laid out as items. -/
import Derived.Test.YtjjlhihocllgjaaGreatDoorPz12
namespace Go.Proofs.YtjjlhihocllgjaaGreatDoor
open Go.ChangeShapes Go.WideShapes Go.ChangeAt Go.RowKit
namespace Lex
structure LItem where
  bytes : List UInt8
  kind : Nat
  value : Nat
def bytesOf : List LItem → List UInt8
  | [] => []
  | x :: T => x.bytes ++ bytesOf T
theorem bytesOf_append : ∀ (T U : List LItem), bytesOf (T ++ U) = bytesOf T ++ bytesOf U
  | [], U => rfl
  | x :: T, U => by simp [bytesOf, bytesOf_append T U]
/-- each item is what the lexer cuts off at its place -/
def GoodI : List LItem → Prop
  | [] => True
  | x :: T => (∃ c r, x.bytes = c :: r ∧ ¬ c.toNat = 32) ∧ one (x.bytes ++ bytesOf T) = .ok ⟨x.kind, x.bytes.length, x.value⟩ ∧ GoodI T
def toksAt : Nat → List LItem → List Tok
  | _, [] => []
  | k, x :: T => ⟨x.kind, ⟨x.bytes.toArray⟩, x.value, k⟩ :: toksAt (k + x.bytes.length) T
theorem toksAt_append : ∀ (T U : List LItem) (k : Nat), toksAt k (T ++ U) = toksAt k T ++ toksAt (k + (bytesOf T).length) U
  | [], U, k => rfl
  | x :: T, U, k => by
    simp only [List.cons_append, toksAt, toksAt_append T U, bytesOf, List.length_append, Nat.add_assoc]
theorem toksAt_len : ∀ (T : List LItem) (k : Nat), (toksAt k T).length = T.length
  | [], k => rfl
  | x :: T, k => by simp [toksAt, toksAt_len T]
theorem items_le : ∀ (T : List LItem), GoodI T → T.length ≤ (bytesOf T).length
  | [], _ => Nat.le_refl _
  | x :: T, h => by
    obtain ⟨⟨c, r, e, _⟩, _, h2⟩ := h
    have := items_le T h2
    simp [bytesOf, e]
    omega
theorem extract_of (s : ByteArray) (k : Nat) (x r : List UInt8) (h : s.data.toList.drop k = x ++ r) : s.extract k (k + x.length) = ⟨x.toArray⟩ := by
  apply ByteArray.ext
  rw [ByteArray.data_extract]
  apply Array.ext'
  rw [Array.toList_extract, List.extract_eq_take_drop, h]
  simp
theorem lexGo_items (s : ByteArray) : ∀ (T : List LItem) (f k : Nat) (l : List Tok), GoodI T → s.data.toList.drop k = bytesOf T → T.length < f → lexGo s f k l = .ok (l ++ toksAt k T)
  | [], f, k, l, _, hd, _ => by
    have hl : (s.data.toList.drop k).length = 0 := by rw [hd]; rfl
    rw [drop_len] at hl
    rw [lexGo_end (by omega)]
    simp [toksAt]
  | x :: T, 0, k, l, _, _, hf => by simp at hf
  | x :: T, f + 1, k, l, h, hd, hf => by
    obtain ⟨⟨c, r, e, h32⟩, ho, h2⟩ := h
    have hlen : (s.data.toList.drop k).length = (bytesOf (x :: T)).length := by rw [hd]
    rw [drop_len] at hlen
    have hp : 0 < (bytesOf (x :: T)).length := by simp [bytesOf, e]
    have hk : k < s.size := by omega
    have hc : s[k] = c := by
      have := drop_cons s k hk
      rw [hd] at this
      simp only [bytesOf, e, List.cons_append, List.cons.injEq] at this
      exact this.1.symm
    have hd2 : s.data.toList.drop (k + x.bytes.length) = bytesOf T := by
      rw [← List.drop_drop, hd]
      simp [bytesOf]
    rw [lexGo_tok hk (by rw [hc]; exact h32) (by rw [hd]; exact ho)]
    rw [lexGo_items s T f _ _ h2 hd2 (by simpa using hf)]
    have ht : oneTok s k ⟨x.kind, x.bytes.length, x.value⟩ = ⟨x.kind, ⟨x.bytes.toArray⟩, x.value, k⟩ := by
      unfold oneTok
      dsimp only
      rw [extract_of s k x.bytes (bytesOf T) hd]
    rw [ht]
    simp [toksAt]
theorem lex_items (s : ByteArray) (T : List LItem) (h : GoodI T) (hb : s.data.toList = bytesOf T) (hs : s.size ≤ 4000) : lex s = .ok (toksAt 0 T) := by
  unfold lex
  rw [if_neg (by omega)]
  have := items_le T h
  have hz : s.size = (bytesOf T).length := by rw [← hb]; rfl
  exact lexGo_items s T _ 0 [] h (by rw [List.drop_zero]; exact hb) (by omega)
/-- where a span ends -/
def Stops (p : UInt8 → Bool) (r : List UInt8) : Prop := ∀ c t, r = c :: t → p c = false
theorem span_to {p : UInt8 → Bool} : ∀ (l r : List UInt8), span p l = l.length → Stops p r → span p (l ++ r) = l.length
  | [], [], _, _ => rfl
  | [], c :: t, _, h => by rw [List.nil_append, span_stop (h c t rfl)]; rfl
  | b :: l, r, hl, h => by
    cases hb : p b with
    | false => rw [span_stop hb] at hl; simp at hl
    | true =>
      rw [span_cons hb] at hl
      rw [List.cons_append, span_cons hb, span_to l r (by simpa using hl) h]
      rfl
theorem item_word (s : ByteArray) (h : nameOk s = true) (r : List UInt8) (hr : Stops isInn r) : one (s.data.toList ++ r) = .ok ⟨1, s.data.toList.length, 0⟩ ∧ ∃ c t, s.data.toList = c :: t ∧ isLet c = true := by
  unfold nameOk at h
  simp only [Bool.and_eq_true, decide_eq_true_eq] at h
  obtain ⟨h1, h2, h3, h4⟩ := h
  have hz : s.size = s.data.toList.length := rfl
  unfold runLen at h4
  rw [List.drop_zero] at h4
  rw [hz] at h1 h2 h4
  generalize s.data.toList = l at *
  cases l with
  | nil => simp at h1
  | cons c t =>
    have hc : isLet c = true := by simpa using h3
    have hi : isInn c = true := by unfold isInn; rw [hc]; rfl
    rw [span_cons hi] at h4
    have ht : span isInn t = t.length := by simpa using h4
    refine ⟨?_, c, t, rfl, hc⟩
    have h12 : ¬ 12 < t.length + 1 := by simp at h2; omega
    rw [List.cons_append]
    simp only [one, if_pos hc, span_to t r ht hr, if_neg h12]
    rfl
theorem item_mark {c : UInt8} (r : List UInt8) (h1 : isLet c = false) (h2 : isDig c = false) (h3 : isMark c = true) : one (c :: r) = .ok ⟨3, 1, 0⟩ := by
  simp [one, h1, h2, h3]
theorem item_digit {c : UInt8} (r : List UInt8) (h2 : isDig c = true) (h1 : isLet c = false) (hr : Stops isDig r) : one (c :: r) = .ok ⟨2, 1, c.toNat - 48⟩ := by
  have hs : span isDig r = 0 := by
    cases r with
    | nil => rfl
    | cons d t => exact span_stop (hr d t rfl)
  simp [one, h1, h2, hs, val]
end Lex
end Go.Proofs.YtjjlhihocllgjaaGreatDoor
