/- Plain: tokens, and what Tokens computes. -/
import Derived.Test.YtabkaaapkcadhaaLex1
import Derived.Test.YtabkaaapkcadhaaMem
namespace Go.Proofs.Ytabkaaapkcadhaa
open Go.ChangeShapes Go.WideShapes Go.ChangeAt Go.RowKit
namespace Lex
structure Tok where
  kind : Int
  text : ByteArray
  value : Int
  pos : Int
def Tok.none : Tok := ⟨0, ⟨#[]⟩, 0, 0⟩
abbrev Tok.cells (t : Tok) : List Value := [.int .i64 t.kind, .string t.text, .int .i64 t.value, .int .i64 t.pos]
def cellsOf (l : List Tok) : List Value := l.flatMap Tok.cells
theorem cellsOf_snoc (l : List Tok) (t : Tok) : cellsOf (l ++ [t]) = cellsOf l ++ t.cells := by simp [cellsOf]
theorem cellsOf_len (l : List Tok) : (cellsOf l).length = l.length * 4 := by
  unfold cellsOf
  induction l with
  | nil => rfl
  | cons t l ih =>
    rw [List.flatMap_cons, List.length_append, ih, List.length_cons]
    show 4 + _ = _
    rw [List.length_cons]
    omega
theorem cellsOf_at (l : List Tok) (i : Nat) (hi : i < l.length) : (cellsOf l)[i * 4]? = some (.int .i64 l[i].kind) ∧ (cellsOf l)[i * 4 + 1]? = some (.string l[i].text) ∧ (cellsOf l)[i * 4 + 2]? = some (.int .i64 l[i].value) ∧ (cellsOf l)[i * 4 + 3]? = some (.int .i64 l[i].pos) := by
  induction l generalizing i with
  | nil => simp at hi
  | cons t l ih =>
    cases i with
    | zero => simp [cellsOf]
    | succ i =>
      have h := ih i (by simpa using hi)
      have e : ∀ j, (cellsOf (t :: l))[(i + 1) * 4 + j]? = (cellsOf l)[i * 4 + j]? := by
        intro j
        rw [show (i + 1) * 4 + j = 4 + (i * 4 + j) by omega]
        show (t.cells ++ cellsOf l)[4 + (i * 4 + j)]? = _
        rw [List.getElem?_append_right (by simp)]
        simp
      have e0 := e 0
      simp only [Nat.add_zero] at e0
      rw [e0, e 1, e 2, e 3]
      exact h
/-- a row of tokens in memory -/
def TokRow (w : World) (b o : Nat) (L : List Tok) : Prop := ∀ j u, (cellsOf L)[j]? = some u → w.cell? ⟨b, o + j, none⟩ = some u
theorem TokRow.at_ {w : World} {b o : Nat} {L : List Tok} (h : TokRow w b o L) (k : Nat) (hk : k < L.length) :
    w.cell? ⟨b, o + k * 4, none⟩ = some (.int .i64 L[k].kind) ∧ w.cell? ⟨b, o + k * 4 + 1, none⟩ = some (.string L[k].text) ∧ w.cell? ⟨b, o + k * 4 + 2, none⟩ = some (.int .i64 L[k].value) ∧ w.cell? ⟨b, o + k * 4 + 3, none⟩ = some (.int .i64 L[k].pos) := by
  obtain ⟨e0, e1, e2, e3⟩ := cellsOf_at L k hk
  exact ⟨h _ _ e0, h _ _ e1, h _ _ e2, h _ _ e3⟩
/-- a token and an error number -/
def oneTok (s : ByteArray) (a : Nat) (p : Piece) : Tok := ⟨p.kind, s.extract a (a + p.len), p.value, a⟩
def lexGo (s : ByteArray) : Nat → Nat → List Tok → Except Int (List Tok)
  | 0, _, l => .ok l
  | f + 1, k, l =>
    if h : k < s.size then
      if s[k].toNat = 32 then lexGo s f (k + 1) l
      else match one (s.data.toList.drop k) with
        | .error e => .error e
        | .ok p => lexGo s f (k + p.len) (l ++ [oneTok s k p])
    else .ok l
def lex (s : ByteArray) : Except Int (List Tok) := if 4000 < s.size then .error 3 else lexGo s (s.size + 1) 0 []
theorem lexGo_space {s : ByteArray} {f k : Nat} {l : List Tok} (h : k < s.size) (h1 : s[k].toNat = 32) : lexGo s (f + 1) k l = lexGo s f (k + 1) l := by
  simp only [lexGo, dif_pos h, if_pos h1]
theorem lexGo_tok {s : ByteArray} {f k : Nat} {l : List Tok} {p : Piece} (h : k < s.size) (h1 : ¬ s[k].toNat = 32) (h2 : one (s.data.toList.drop k) = .ok p) : lexGo s (f + 1) k l = lexGo s f (k + p.len) (l ++ [oneTok s k p]) := by
  simp only [lexGo, dif_pos h, if_neg h1, h2]
theorem lexGo_err {s : ByteArray} {f k : Nat} {l : List Tok} {e : Int} (h : k < s.size) (h1 : ¬ s[k].toNat = 32) (h2 : one (s.data.toList.drop k) = .error e) : lexGo s (f + 1) k l = .error e := by
  simp only [lexGo, dif_pos h, if_neg h1, h2]
theorem lexGo_end {s : ByteArray} {f k : Nat} {l : List Tok} (h : s.size ≤ k) : lexGo s f k l = .ok l := by
  cases f with
  | zero => rfl
  | succ f => simp only [lexGo, dif_neg (show ¬ k < s.size by omega)]
theorem one_err {l : List UInt8} {e : Int} (h : one l = .error e) : e = 2 ∨ e = 3 ∨ e = 4 := by
  cases l with
  | nil => injection h with h; exact .inl h.symm
  | cons b l =>
    simp only [one] at h
    repeat' split at h
    all_goals first
      | (cases h; done)
      | (injection h with h; subst h; simp)
end Lex
end Go.Proofs.Ytabkaaapkcadhaa
