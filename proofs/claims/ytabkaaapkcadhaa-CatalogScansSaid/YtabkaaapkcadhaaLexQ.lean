/- Plain laws on what Tokens computes. -/
import Derived.Test.YtabkaaapkcadhaaLexN
namespace Go.Proofs.Ytabkaaapkcadhaa
open Go.ChangeShapes Go.WideShapes Go.ChangeAt Go.RowKit
namespace Lex
theorem drop_len (s : ByteArray) (k : Nat) : (s.data.toList.drop k).length = s.size - k := by rw [List.length_drop]; rfl
theorem lexGo_len (s : ByteArray) : ∀ (f k : Nat) (l r : List Tok), k ≤ s.size → lexGo s f k l = .ok r → r.length ≤ l.length + (s.size - k)
  | 0, k, l, r, _, h => by
    injection h with h
    subst h
    omega
  | f + 1, k, l, r, hk, h => by
    by_cases hlt : k < s.size
    · by_cases h32 : s[k].toNat = 32
      · rw [lexGo_space hlt h32] at h
        have := lexGo_len s f (k + 1) l r (by omega) h
        omega
      · cases ho : one (s.data.toList.drop k) with
        | error x => rw [lexGo_err hlt h32 ho] at h; cases h
        | ok p =>
          rw [lexGo_tok hlt h32 ho] at h
          have hp := one_len ho
          rw [drop_len] at hp
          have := lexGo_len s f (k + p.len) _ r (by omega) h
          rw [List.length_append, List.length_singleton] at this
          omega
    · rw [lexGo_end (by omega)] at h
      injection h with h
      subst h
      omega
theorem lex_len (s : ByteArray) (hs : s.size ≤ 5000) : (match lex s with | .ok l => l | .error _ => []).length ≤ 5000 := by
  cases h : lex s with
  | error x => simp
  | ok r =>
    unfold lex at h
    split at h
    · cases h
    · have := lexGo_len s _ 0 [] r (by omega) h
      simp at this ⊢
      omega
/-- where a token of the list comes from -/
theorem lexGo_mem (s : ByteArray) : ∀ (f k : Nat) (l r : List Tok), lexGo s f k l = .ok r → ∀ t ∈ r, t ∈ l ∨ ∃ k' p, k ≤ k' ∧ k' < s.size ∧ one (s.data.toList.drop k') = .ok p ∧ t = oneTok s k' p
  | 0, k, l, r, h, t, ht => by
    injection h with h
    subst h
    exact .inl ht
  | f + 1, k, l, r, h, t, ht => by
    by_cases hlt : k < s.size
    · by_cases h32 : s[k].toNat = 32
      · rw [lexGo_space hlt h32] at h
        rcases lexGo_mem s f (k + 1) l r h t ht with h1 | ⟨k', p, a, b, c, d⟩
        · exact .inl h1
        · exact .inr ⟨k', p, by omega, b, c, d⟩
      · cases ho : one (s.data.toList.drop k) with
        | error x => rw [lexGo_err hlt h32 ho] at h; cases h
        | ok p =>
          rw [lexGo_tok hlt h32 ho] at h
          rcases lexGo_mem s f (k + p.len) _ r h t ht with h1 | ⟨k', q, a, b, c, d⟩
          · rcases List.mem_append.1 h1 with h2 | h2
            · exact .inl h2
            · simp at h2
              exact .inr ⟨k, p, Nat.le_refl _, hlt, ho, h2⟩
          · exact .inr ⟨k', q, by omega, b, c, d⟩
    · rw [lexGo_end (by omega)] at h
      injection h with h
      subst h
      exact .inl ht
theorem not_space_of_let {b : UInt8} (h : isLet b = true) : ¬ b.toNat = 32 := by
  unfold isLet at h
  simp at h
  omega
theorem name_of (s : ByteArray) (h : nameOk s = true) : lex s = .ok [⟨1, s, 0, 0⟩] := by
  unfold nameOk at h
  simp only [Bool.and_eq_true, decide_eq_true_eq] at h
  obtain ⟨h0, h12, hl, hr⟩ := h
  rw [head_any s h0] at hl
  have ho := one_name s h0 hl
  rw [if_neg (by omega)] at ho
  unfold lex
  rw [if_neg (by omega)]
  have h1 : lexGo s (s.size + 1) 0 [] = lexGo s s.size (0 + runLen isInn s 0) ([] ++ [oneTok s 0 ⟨1, runLen isInn s 0, 0⟩]) :=
    lexGo_tok h0 (not_space_of_let hl) (by simpa using ho)
  rw [h1, lexGo_end (by omega)]
  have e : oneTok s 0 ⟨1, runLen isInn s 0, 0⟩ = ⟨1, s, 0, 0⟩ := by
    unfold oneTok
    simp only
    rw [Nat.zero_add, hr, extract_all]
    rfl
  rw [e]
  rfl
theorem one_kind1 {l : List UInt8} {p : Piece} (h : one l = .ok p) (hk : p.kind = 1) : p.len ≤ 12 ∧ l.head?.any isLet = true ∧ span isInn l = p.len := by
  cases l with
  | nil => cases h
  | cons b l =>
    simp only [one] at h
    by_cases hl : isLet b = true
    · rw [if_pos hl] at h
      split at h
      · cases h
      · injection h with h
        subst h
        exact ⟨by simp; omega, by simpa using hl, by rw [span_cons (inn_of_let hl)]⟩
    · rw [if_neg hl] at h
      repeat' split at h
      all_goals first
        | (cases h; done)
        | (injection h with h; subst h; cases hk)
theorem name_back (s : ByteArray) (t : Tok) (h : lex s = .ok [t]) (hk : t.kind = 1) (ht : t.text = s) : nameOk s = true := by
  unfold lex at h
  split at h
  · cases h
  · rcases lexGo_mem s _ 0 [] [t] h t (by simp) with h1 | ⟨k, p, _, hlt, ho, rfl⟩
    · cases h1
    · have hp := one_len ho
      rw [drop_len] at hp
      have hsz : (s.extract k (k + p.len)).size = s.size := congrArg ByteArray.size ht
      simp at hsz
      obtain rfl : k = 0 := by omega
      have hk' : p.kind = 1 := by
        have : (p.kind : Int) = 1 := hk
        omega
      rw [List.drop_zero] at ho
      obtain ⟨a, b, c⟩ := one_kind1 ho hk'
      unfold nameOk
      have hr : runLen isInn s 0 = p.len := by unfold runLen; rw [List.drop_zero]; exact c
      simp only [Bool.and_eq_true, decide_eq_true_eq]
      exact ⟨by omega, by omega, b, by omega⟩
/-- the tokens of the rest of a text lie one after the other, with spaces between -/
def Cov (s : ByteArray) : Nat → List Tok → Prop
  | a, [] => ∀ j (h : j < s.size), a ≤ j → s[j].toNat = 32
  | a, t :: l => ∃ k n : Nat, a ≤ k ∧ 1 ≤ n ∧ k + n ≤ s.size ∧ t.pos = (k : Int) ∧ t.text = s.extract k (k + n) ∧ (∀ j (h : j < s.size), a ≤ j → j < k → s[j].toNat = 32) ∧ Cov s (k + n) l
theorem Cov.space {s : ByteArray} {a : Nat} {l : List Tok} (h : Cov s (a + 1) l) (hl : a < s.size) (h1 : s[a].toNat = 32) : Cov s a l := by
  cases l with
  | nil =>
    intro j hj ha
    by_cases e : j = a
    · subst e; exact h1
    · exact h j hj (by omega)
  | cons t l =>
    obtain ⟨k, n, ha, hn, hk, hp, ht, hs, hc⟩ := h
    refine ⟨k, n, by omega, hn, hk, hp, ht, fun j hj h2 h3 => ?_, hc⟩
    by_cases e : j = a
    · subst e; exact h1
    · exact hs j hj (by omega) h3
theorem lexGo_cov (s : ByteArray) : ∀ (f k : Nat) (l r : List Tok), s.size < k + f → lexGo s f k l = .ok r → ∃ r', r = l ++ r' ∧ Cov s k r'
  | 0, k, l, r, hf, h => by
    injection h with h
    subst h
    exact ⟨[], by simp, fun j hj ha => by omega⟩
  | f + 1, k, l, r, hf, h => by
    by_cases hlt : k < s.size
    · by_cases h32 : s[k].toNat = 32
      · rw [lexGo_space hlt h32] at h
        obtain ⟨r', e, hc⟩ := lexGo_cov s f (k + 1) l r (by omega) h
        exact ⟨r', e, hc.space hlt h32⟩
      · cases ho : one (s.data.toList.drop k) with
        | error x => rw [lexGo_err hlt h32 ho] at h; cases h
        | ok p =>
          rw [lexGo_tok hlt h32 ho] at h
          have hp := one_len ho
          rw [drop_len] at hp
          obtain ⟨r', e, hc⟩ := lexGo_cov s f (k + p.len) _ r (by omega) h
          exact ⟨oneTok s k p :: r', by rw [e]; simp, k, p.len, Nat.le_refl _, hp.1, by omega, rfl, rfl, fun j hj h2 h3 => by omega, hc⟩
    · rw [lexGo_end (by omega)] at h
      injection h with h
      subst h
      exact ⟨[], by simp, fun j hj ha => by omega⟩
theorem lex_cov {s : ByteArray} {l : List Tok} (h : lex s = .ok l) : s.size ≤ 4000 ∧ Cov s 0 l := by
  unfold lex at h
  split at h
  · cases h
  · obtain ⟨r', e, hc⟩ := lexGo_cov s _ 0 [] l (by omega) h
    rw [List.nil_append] at e
    subst e
    exact ⟨by omega, hc⟩
end Lex
end Go.Proofs.Ytabkaaapkcadhaa
