/- Plain lists: what the lexer computes. -/
namespace Go.Proofs.YtfopmaeaclbknaaDoor
namespace Lex
def isLet (b : UInt8) : Bool := decide (97 ≤ b.toNat) && decide (b.toNat ≤ 122)
def isDig (b : UInt8) : Bool := decide (48 ≤ b.toNat) && decide (b.toNat ≤ 57)
def isInn (b : UInt8) : Bool := isLet b || (isDig b || decide (b.toNat = 95))
def isMark (b : UInt8) : Bool := decide (b.toNat ∈ [123, 125, 40, 41, 44, 58, 64, 43, 45, 61])
/-- how many bytes at the beginning belong together -/
def span (p : UInt8 → Bool) : List UInt8 → Nat
  | [] => 0
  | b :: l => if p b then span p l + 1 else 0
theorem span_le (p : UInt8 → Bool) : ∀ l, span p l ≤ l.length
  | [] => Nat.le_refl _
  | b :: l => by
    unfold span
    split
    · have := span_le p l; simp; omega
    · simp
theorem span_cons {p : UInt8 → Bool} {b : UInt8} {l : List UInt8} (h : p b = true) : span p (b :: l) = span p l + 1 := by simp [span, h]
theorem span_stop {p : UInt8 → Bool} {b : UInt8} {l : List UInt8} (h : p b = false) : span p (b :: l) = 0 := by simp [span, h]
/-- the value of digits -/
def val (l : List UInt8) : Nat := l.foldl (fun v b => v * 10 + (b.toNat - 48)) 0
theorem val_snoc (l : List UInt8) (b : UInt8) : val (l ++ [b]) = val l * 10 + (b.toNat - 48) := by simp [val]
/-- a token without its text: kind, length, value; or an error -/
structure Piece where
  kind : Nat
  len : Nat
  value : Nat
def one : List UInt8 → Except Int Piece
  | [] => .error 2
  | b :: l =>
    if isLet b then (if 12 < span isInn l + 1 then .error 3 else .ok ⟨1, span isInn l + 1, 0⟩)
    else if isDig b then
      (if 1 < span isDig l + 1 ∧ b.toNat = 48 then .error 2
       else if 9 < span isDig l + 1 then .error 4
       else .ok ⟨2, span isDig l + 1, val ((b :: l).take (span isDig l + 1))⟩)
    else if isMark b then .ok ⟨3, 1, 0⟩
    else .error 2
theorem one_len {l : List UInt8} {p : Piece} (h : one l = .ok p) : 1 ≤ p.len ∧ p.len ≤ l.length := by
  cases l with
  | nil => cases h
  | cons b l =>
    have h1 := span_le isInn l
    have h2 := span_le isDig l
    simp only [one] at h
    repeat' split at h
    all_goals first
      | (cases h; done)
      | (injection h with h; subst h; simp; omega)
      | (injection h with h; subst h; simp)
end Lex
end Go.Proofs.YtfopmaeaclbknaaDoor
