/- Plain: events, their encoding, and what the readers of bytes give back. Plain: the line of an event, the event of a line; names. Plain: the words of a line, by Split and by its first spaces. Plain: the library's string functions at one byte, in the words of the events' texts. Plain: numbers in groups of seven bits, a reader's sum. Plain: decimal words; the size of an encoding; kinds by name. -/
import Derived.Test.YtaikmgnpfbnjjaaGreatDoorPv0EvBase
import Derived.Test.YtaikmgnpfbnjjaaGreatDoorPv14
import Derived.Test.YtaikmgnpfbnjjaaGreatDoorPv15
import Derived.Lib.IndexMore
import Derived.Lib.Replace
import Derived.Lib.Strings
import Derived.Lib.Bytealg
import Derived.Laws.BitsAllLaws
import Derived.IntWalk
namespace Go.Proofs.YtaikmgnpfbnjjaaGreatDoor.Ev
open Go.ChangeShapes Go.WideShapes Go.ChangeAt Go.RowKit Gn Cat Lex
set_option linter.unusedVariables false
set_option linter.unusedSimpArgs false
structure Evt where
  kind : Int
  bidder : Int
  round : Int
  want : Nat → Int
  text : ByteArray
  digest : Nat
abbrev Evt.cells (e : Evt) : List Value := [.int .i64 e.kind, .int .i64 e.bidder, .int .i64 e.round, .int .i64 (e.want 0), .int .i64 (e.want 1), .int .i64 (e.want 2), .int .i64 (e.want 3), .int .i64 (e.want 4), .int .i64 (e.want 5), .string e.text, .int .u64 (e.digest : Int)]
abbrev Evt.val (e : Evt) : Value := .agg #[.int .i64 e.kind, .int .i64 e.bidder, .int .i64 e.round, .int .i64 (e.want 0), .int .i64 (e.want 1), .int .i64 (e.want 2), .int .i64 (e.want 3), .int .i64 (e.want 4), .int .i64 (e.want 5), .string e.text, .int .u64 (e.digest : Int)]
def noEvt : Evt := ⟨0, 0, 0, zero6, ⟨#[]⟩, 0⟩
/-- the same in all that is seen -/
def evEq (a b : Evt) : Bool := a.kind == b.kind && (a.bidder == b.bidder && (a.round == b.round && (eq6 a.want b.want && (eqB a.text b.text && a.digest == b.digest))))
abbrev hasB (k : Int) : Prop := k = 2 ∨ k = 5 ∨ k = 6 ∨ k = 7
abbrev hasT (k : Int) : Prop := k = 1 ∨ k = 5
def bareE (e : Evt) : Evt := ⟨e.kind, if hasB e.kind then e.bidder else 0, if e.kind = 8 then e.round else 0, if e.kind = 2 then e.want else zero6, if hasT e.kind then e.text else ⟨#[]⟩, if e.kind = 10 then e.digest else 0⟩
/-- fields as the program numbers them -/
def fieldsK (k : Int) : Int := if k = 1 then 4 else if k = 2 then 3 else if k = 5 then 5 else if k = 6 ∨ k = 7 then 1 else if k = 8 then 8 else if k = 10 then 16 else 0
def nameK (k : Int) : ByteArray :=
  if k = 1 then ⟨#[115, 97, 108, 101]⟩ else if k = 2 then ⟨#[100, 101, 109, 97, 110, 100]⟩ else if k = 3 then ⟨#[114, 111, 117, 110, 100]⟩ else if k = 4 then ⟨#[115, 116, 111, 112]⟩ else if k = 5 then ⟨#[98, 105, 100]⟩
  else if k = 6 then ⟨#[119, 105, 116, 104, 100, 114, 97, 119]⟩ else if k = 7 then ⟨#[100, 105, 115, 113, 117, 97, 108, 105, 102, 121]⟩ else if k = 8 then ⟨#[114, 101, 114, 117, 110]⟩ else if k = 9 then ⟨#[99, 108, 111, 115, 101]⟩ else if k = 10 then ⟨#[100, 101, 99, 105, 100, 101]⟩ else ⟨#[]⟩
/-- a number in groups of seven bits -/
def uintF : Nat → Nat → List UInt8
  | 0, x => [UInt8.ofNat x]
  | k + 1, x => if x < 128 then [UInt8.ofNat x] else UInt8.ofNat (128 + x % 128) :: uintF k (x / 128)
def uintL (x : Nat) : List UInt8 := uintF 9 x
def textL (s : ByteArray) : List UInt8 := uintL s.size ++ s.data.toList
def codeL (e : Evt) : List UInt8 :=
  uintL e.kind.toNat ++ ((if hasB e.kind then uintL e.bidder.toNat else []) ++ ((if e.kind = 8 then uintL e.round.toNat else []) ++ ((if e.kind = 2 then uintL (e.want 0).toNat ++ (uintL (e.want 1).toNat ++ (uintL (e.want 2).toNat ++ (uintL (e.want 3).toNat ++ (uintL (e.want 4).toNat ++ uintL (e.want 5).toNat)))) else []) ++ ((if hasT e.kind then textL e.text else []) ++ (if e.kind = 10 then uintL e.digest else [])))))
def codeB (e : Evt) : ByteArray := ⟨(codeL e).toArray⟩
def checkV (e : Evt) : Int :=
  if (e.kind < 1 ∨ 10 < e.kind) ∨ evEq e (bareE e) = false then 2
  else if e.bidder < 0 ∨ 8 ≤ e.bidder ∨ e.round < 0 ∨ 30 ≤ e.round ∨ validB e.want = false then 4
  else if 4000 < (codeL e).length then 3
  else 0
def encodeV (e : Evt) : ByteArray × Int := if checkV e ≠ 0 then (⟨#[]⟩, checkV e) else (codeB e, 0)
/-- a reader: what is left, and its error -/
structure Rd where
  l : List UInt8
  e : Int
/-- the digits of a number: place, sum so far -/
def rdGo (most : Nat) (l0 : List UInt8) : List UInt8 → Nat → Nat → Nat × Rd
  | [], _, _ => (0, ⟨l0, 1⟩)
  | b :: l, i, x =>
    if i = 9 ∧ 1 < b.toNat then (0, ⟨l0, 2⟩)
    else if 128 ≤ b.toNat then rdGo most l0 l (i + 1) (x + b.toNat % 128 * 128 ^ i)
    else if b.toNat = 0 ∧ 0 < i then (0, ⟨l0, 2⟩)
    else if most < x + b.toNat % 128 * 128 ^ i then (0, ⟨l0, 4⟩)
    else (x + b.toNat % 128 * 128 ^ i, ⟨l, 0⟩)
def rdU (most : Nat) (r : Rd) : Nat × Rd := if r.e ≠ 0 then (0, r) else rdGo most r.l r.l 0 0
def rdT (most : Nat) (r : Rd) : ByteArray × Rd :=
  if (rdU most r).2.e ≠ 0 then (⟨#[]⟩, (rdU most r).2)
  else if (rdU most r).2.l.length < (rdU most r).1 then (⟨#[]⟩, ⟨(rdU most r).2.l, 1⟩)
  else (⟨((rdU most r).2.l.take (rdU most r).1).toArray⟩, ⟨(rdU most r).2.l.drop (rdU most r).1, 0⟩)
def rdFail (r : Rd) (x : Int) : Rd := if r.e ≠ 0 then r else ⟨r.l, x⟩
def rdEnd (r : Rd) : Int := if r.e = 0 ∧ r.l ≠ [] then 3 else r.e
/-- the numbers of a bundle -/
def rd6 (r : Rd) : (Nat → Int) × Rd :=
  let q0 := rdU 4 r
  let q1 := rdU 4 q0.2
  let q2 := rdU 4 q1.2
  let q3 := rdU 4 q2.2
  let q4 := rdU 4 q3.2
  let q5 := rdU 4 q4.2
  (fun k => if k = 0 then q0.1 else if k = 1 then q1.1 else if k = 2 then q2.1 else if k = 3 then q3.1 else if k = 4 then q4.1 else q5.1, q5.2)
def kindR (s : ByteArray) : Nat × Rd := rdU 10 ⟨s.data.toList, 0⟩
/-- what Decode answers ahead of its last check -/
def decodeR (s : ByteArray) : Evt × Rd :=
  let q := kindR s
  let k : Int := q.1
  let r0 := if k = 0 then rdFail q.2 2 else q.2
  if hasB k then
    let b := rdU 7 r0
    if k = 2 then let v := rd6 b.2; (⟨k, b.1, 0, v.1, ⟨#[]⟩, 0⟩, v.2)
    else if k = 5 then let t := rdT 4000 b.2; (⟨k, b.1, 0, zero6, t.1, 0⟩, t.2)
    else (⟨k, b.1, 0, zero6, ⟨#[]⟩, 0⟩, b.2)
  else if k = 1 then let t := rdT 4000 r0; (⟨k, 0, 0, zero6, t.1, 0⟩, t.2)
  else if k = 8 then let v := rdU 29 r0; (⟨k, 0, v.1, zero6, ⟨#[]⟩, 0⟩, v.2)
  else if k = 10 then let v := rdU 18446744073709551615 r0; (⟨k, 0, 0, zero6, ⟨#[]⟩, v.1⟩, v.2)
  else (⟨k, 0, 0, zero6, ⟨#[]⟩, 0⟩, r0)
def decodeV (s : ByteArray) : Evt × Int :=
  if 4000 < s.size then (noEvt, 3)
  else if rdEnd (decodeR s).2 ≠ 0 then (noEvt, rdEnd (decodeR s).2)
  else ((decodeR s).1, 0)
/-- reading a number gives back what was written -/
theorem rdGo_ok (most : Nat) (l0 : List UInt8) : ∀ (l : List UInt8) (i x y : Nat) (r : List UInt8), i ≤ 9 → rdGo most l0 l i x = (y, ⟨r, 0⟩) → ∃ n, y = x + n * 128 ^ i ∧ l = uintF (9 - i) n ++ r ∧ y ≤ most ∧ (0 < i → 0 < n)
  | [], i, x, y, r, _, h => by
    unfold rdGo at h
    injection h with _ h
    injection h with _ h
    cases h
  | b :: l, i, x, y, r, hi, h => by
    have hb := b.toNat_lt
    unfold rdGo at h
    split at h
    · injection h with _ h
      injection h with _ h
      cases h
    · rename_i h1
      split at h
      · rename_i h2
        have hi9 : i ≠ 9 := fun e => h1 ⟨e, by omega⟩
        obtain ⟨n, e1, e2, e3, e4⟩ := rdGo_ok most l0 l (i + 1) _ y r (by omega) h
        have hn := e4 (by omega)
        have hk : 9 - i = (9 - (i + 1)) + 1 := by omega
        refine ⟨b.toNat % 128 + 128 * n, ?_, ?_, e3, fun _ => by omega⟩
        · rw [e1, Nat.pow_succ, Nat.add_mul]
          have : n * (128 ^ i * 128) = 128 * n * 128 ^ i := by rw [Nat.mul_comm (128 ^ i) 128, ← Nat.mul_assoc, Nat.mul_comm n 128]
          omega
        · rw [hk]
          unfold uintF
          rw [if_neg (by omega), e2, List.cons_append]
          have q1 : (b.toNat % 128 + 128 * n) % 128 = b.toNat % 128 := by omega
          have q2 : (b.toNat % 128 + 128 * n) / 128 = n := by omega
          rw [q1, q2]
          congr 1
          have : 128 + b.toNat % 128 = b.toNat := by omega
          rw [this]
          simp
      · rename_i h2
        split at h
        · injection h with _ h
          injection h with _ h
          cases h
        · rename_i h3
          split at h
          · injection h with _ h
            injection h with _ h
            cases h
          · rename_i h4
            injection h with e1 h
            injection h with e2 _
            subst e2
            have hm : b.toNat % 128 = b.toNat := Nat.mod_eq_of_lt (by omega)
            rw [hm] at e1 h4
            refine ⟨b.toNat, e1.symm, ?_, by omega, fun h0 => by
              by_cases hz : b.toNat = 0
              · exact absurd ⟨hz, h0⟩ h3
              · omega⟩
            have hu : uintF (9 - i) b.toNat = [b] := by
              cases 9 - i with
              | zero => unfold uintF; simp
              | succ k => unfold uintF; rw [if_pos (by omega)]; simp
            rw [hu]
            rfl
theorem rdU_ok {most : Nat} {r r' : Rd} {y : Nat} (h : rdU most r = (y, r')) (h0 : r'.e = 0) : r.e = 0 ∧ r.l = uintL y ++ r'.l ∧ y ≤ most := by
  unfold rdU at h
  by_cases he : r.e ≠ 0
  · rw [if_pos he] at h
    injection h with _ h
    rw [← h] at h0
    exact absurd h0 he
  · rw [if_neg he] at h
    obtain ⟨l', e'⟩ := r'
    dsimp only at h0
    subst h0
    obtain ⟨n, e1, e2, e3, _⟩ := rdGo_ok most r.l r.l 0 0 y l' (by omega) h
    have hy : y = n := by rw [e1]; simp
    subst hy
    exact ⟨Classical.not_not.1 he, e2, e3⟩
theorem rdT_ok {most : Nat} {r r' : Rd} {s : ByteArray} (h : rdT most r = (s, r')) (h0 : r'.e = 0) : r.e = 0 ∧ r.l = textL s ++ r'.l ∧ s.size ≤ most := by
  unfold rdT at h
  split at h
  · rename_i h1
    injection h with _ h
    rw [← h] at h0
    exact absurd h0 h1
  · rename_i h1
    split at h
    · injection h with _ h
      rw [← h] at h0
      cases h0
    · rename_i h2
      injection h with e1 e2
      obtain ⟨q1, q2, q3⟩ := rdU_ok (r := r) (most := most) (y := (rdU most r).1) (r' := (rdU most r).2) rfl (Classical.not_not.1 h1)
      have hs : s.size = (rdU most r).1 := by
        rw [← e1]
        show (((rdU most r).2.l.take (rdU most r).1).toArray).size = _
        rw [List.size_toArray, List.length_take]
        omega
      refine ⟨q1, ?_, by omega⟩
      unfold textL
      rw [hs, q2, ← e1, ← e2, List.append_assoc]
      congr 1
      exact (List.take_append_drop _ _).symm
end Go.Proofs.YtaikmgnpfbnjjaaGreatDoor.Ev
namespace Go.Proofs.YtaikmgnpfbnjjaaGreatDoor.Ev
open Go.ChangeShapes Go.WideShapes Go.ChangeAt Go.RowKit Gn Cat Lex Ros Se
set_option linter.unusedVariables false
set_option linter.unusedSimpArgs false
def replL (a b : UInt8) (l : List UInt8) : List UInt8 := l.map fun c => if c = a then b else c
/-- the last word of an event with a text; none: it cannot be written -/
def lastT (k : Int) (t : List UInt8) : Option (List UInt8) :=
  if k = 1 then (if t.getLast? = some 10 ∧ t.dropLast ≠ [] ∧ t.dropLast.getLast? ≠ some 10 ∧ t.contains 59 = false then some (replL 10 59 t.dropLast) else none)
  else if t = [] ∨ t.head? = some 32 ∨ t.contains 10 = true then none else some t
def bidB (S : SetD) (i : Int) : List UInt8 := (S.bs.getD i.toNat Bid.none).name.data.toList
/-- what stands behind the name -/
def lastL (S : SetD) (e : Evt) : Option (List UInt8) :=
  if hasB e.kind ∧ (S.err ≠ 0 ∨ (S.bs.length : Int) ≤ e.bidder) then none
  else if e.kind = 2 then (if rfitsB e.want S.ps = true then some (32 :: bidB S e.bidder ++ 32 :: (fmtS e.want S.ps).data.toList) else none)
  else if hasT e.kind then (lastT e.kind e.text.data.toList).map fun t => (if hasB e.kind then 32 :: bidB S e.bidder else []) ++ 32 :: t
  else if e.kind = 8 then some (32 :: Lib.decDigits e.round.toNat)
  else if e.kind = 10 then some (32 :: Sum.hexL e.digest 16)
  else if hasB e.kind then some (32 :: bidB S e.bidder)
  else some []
def formatL (S : SetD) (e : Evt) : List UInt8 :=
  if checkV e ≠ 0 then []
  else match lastL S e with
    | none => []
    | some t => if 4000 < (nameK e.kind).size + t.length then [] else (nameK e.kind).data.toList ++ t
def formatV (S : SetD) (e : Evt) : ByteArray := ⟨(formatL S e).toArray⟩
/-- lines -/
def cutL : List UInt8 → List UInt8 × List UInt8 × Bool
  | [] => ([], [], false)
  | c :: r => if c = 32 then ([], r, true) else (c :: (cutL r).1, (cutL r).2.1, (cutL r).2.2)
def kindOf (n : List UInt8) : Int :=
  if n = (nameK 1).data.toList then 1 else if n = (nameK 2).data.toList then 2 else if n = (nameK 3).data.toList then 3 else if n = (nameK 4).data.toList then 4 else if n = (nameK 5).data.toList then 5
  else if n = (nameK 6).data.toList then 6 else if n = (nameK 7).data.toList then 7 else if n = (nameK 8).data.toList then 8 else if n = (nameK 9).data.toList then 9 else if n = (nameK 10).data.toList then 10 else 0
/-- has a line the words of its kind? -/
def wordsL (k : Int) (rest : List UInt8) (more : Bool) : Bool :=
  if k = 1 then more && !rest.isEmpty
  else if k = 3 ∨ k = 4 ∨ k = 9 then !more
  else if k = 5 then more && ((cutL rest).2.2 && (!(cutL rest).2.1.isEmpty && (!((cutL rest).2.1.head? == some 32) && !(cutL rest).2.1.contains 10)))
  else if k = 2 then more && ((cutL rest).2.2 && !(cutL (cutL rest).2.1).2.2)
  else more && !(cutL rest).2.2
def digB (l : List UInt8) : Bool := l.all fun c => isDig c
def decR (l : List UInt8) : Int × Int :=
  if l = [] ∨ (1 < l.length ∧ l.head? = some 48) ∨ digB l = false then (0, 2)
  else if 29 < val l then (0, 4) else ((val l : Int), 0)
def setT (l : List UInt8) : List UInt8 := if (replL 59 10 l).getLast? = some 10 then replL 59 10 l else replL 59 10 l ++ [10]
def ofL (l : List UInt8) : ByteArray := ⟨l.toArray⟩
/-- the field behind the bidder: the event, an error -/
def fieldV (S : SetD) (k : Int) (i : Int) (last : List UInt8) : Evt × Int :=
  if k = 1 then (⟨k, i, 0, zero6, ofL (setT last), 0⟩, 0)
  else if k = 5 then (⟨k, i, 0, zero6, ofL last, 0⟩, 0)
  else if k = 2 then (⟨k, i, 0, (parseF S.ps (ofL last)).1, ⟨#[]⟩, 0⟩, (parseF S.ps (ofL last)).2)
  else if k = 8 then (⟨k, i, (decR last).1, zero6, ⟨#[]⟩, 0⟩, (decR last).2)
  else if k = 10 then (match (if last.length = 16 then Sum.unh 0 last else none) with | none => (⟨k, i, 0, zero6, ⟨#[]⟩, 0⟩, 2) | some n => (⟨k, i, 0, zero6, ⟨#[]⟩, n⟩, 0))
  else (⟨k, i, 0, zero6, ⟨#[]⟩, 0⟩, 0)
def lastOf (k : Int) (rest : List UInt8) : List UInt8 := if hasB k then (cutL rest).2.1 else rest
def parseV (S : SetD) (s : ByteArray) : Evt × Int :=
  if 4000 < s.size then (noEvt, 3)
  else
    let q := cutL s.data.toList
    let k := kindOf q.1
    if k = 0 then (noEvt, 22)
    else if wordsL k q.2.1 q.2.2 = false then (noEvt, 2)
    else if hasB k ∧ findB S.bs (ofL (cutL q.2.1).1) = none then (noEvt, 6)
    else
      let f := fieldV S k (if hasB k then (((findB S.bs (ofL (cutL q.2.1).1)).getD 0 : Nat) : Int) else 0) (lastOf k q.2.1)
      if f.2 ≠ 0 then (noEvt, f.2)
      else if checkV f.1 ≠ 0 then (noEvt, checkV f.1)
      else (f.1, 0)
/-- names differ -/
theorem name_range {k : Int} (h : nameK k ≠ ⟨#[]⟩) : 1 ≤ k ∧ k ≤ 10 := by
  unfold nameK at h
  repeat' split at h
  all_goals first
    | omega
    | exact absurd rfl h
theorem name_inj {a b : Int} (h : nameK a = nameK b) (h0 : nameK a ≠ ⟨#[]⟩) : a = b := by
  have ha := name_range h0
  have hb := name_range (h ▸ h0)
  have key : ∀ i j : Fin 10, nameK ((i.val : Int) + 1) = nameK ((j.val : Int) + 1) → i = j := by decide +kernel
  obtain ⟨i, hi⟩ : ∃ i : Fin 10, a = (i.val : Int) + 1 := ⟨⟨(a - 1).toNat, by omega⟩, by show a = (((a - 1).toNat : Nat) : Int) + 1; omega⟩
  obtain ⟨j, hj⟩ : ∃ j : Fin 10, b = (j.val : Int) + 1 := ⟨⟨(b - 1).toNat, by omega⟩, by show b = (((b - 1).toNat : Nat) : Int) + 1; omega⟩
  subst hi hj
  rw [key i j h]
theorem name_some {k : Int} (h : 1 ≤ k ∧ k ≤ 10) : 0 < (nameK k).size ∧ (nameK k).size ≤ 10 := by
  have key : ∀ i : Fin 10, 0 < (nameK ((i.val : Int) + 1)).size ∧ (nameK ((i.val : Int) + 1)).size ≤ 10 := by decide +kernel
  obtain ⟨i, hi⟩ : ∃ i : Fin 10, k = (i.val : Int) + 1 := ⟨⟨(k - 1).toNat, by omega⟩, by show k = (((k - 1).toNat : Nat) : Int) + 1; omega⟩
  subst hi
  exact key i
theorem check_parts {e : Evt} (h : checkV e = 0) : (1 ≤ e.kind ∧ e.kind ≤ 10) ∧ evEq e (bareE e) = true ∧ (0 ≤ e.bidder ∧ e.bidder ≤ 7) ∧ (0 ≤ e.round ∧ e.round ≤ 29) ∧ validB e.want = true ∧ (codeL e).length ≤ 4000 := by
  unfold checkV at h
  split at h
  · cases h
  · rename_i h1
    split at h
    · cases h
    · rename_i h2
      split at h
      · cases h
      · rename_i h3
        have hv : validB e.want = true := by
          cases hx : validB e.want with
          | true => rfl
          | false => exact absurd (.inr (.inr (.inr (.inr hx)))) h2
        have he : evEq e (bareE e) = true := by
          cases hx : evEq e (bareE e) with
          | true => rfl
          | false => exact absurd (.inr hx) h1
        exact ⟨by omega, he, by omega, by omega, hv, by omega⟩
/-- a line begins with its name, and a space or the end is behind it -/
theorem line_head {S : SetD} {e : Evt} (h : formatL S e ≠ []) : ∃ t, formatL S e = (nameK e.kind).data.toList ++ t ∧ (t = [] ∨ t.head? = some 32) := by
  unfold formatL at h ⊢
  split at h
  · exact absurd rfl h
  · rename_i h1
    rw [if_neg h1]
    cases hl : lastL S e with
    | none => rw [hl] at h; exact absurd rfl h
    | some t =>
      rw [hl] at h
      dsimp only at h ⊢
      split at h
      · exact absurd rfl h
      · rename_i h2
        rw [if_neg h2]
        refine ⟨t, rfl, ?_⟩
        unfold lastL at hl
        split at hl
        · cases hl
        · split at hl
          · split at hl
            · injection hl with hl; subst hl; exact .inr rfl
            · cases hl
          · split at hl
            · cases hx : lastT e.kind e.text.data.toList with
              | none => rw [hx] at hl; cases hl
              | some u =>
                rw [hx] at hl
                injection hl with hl
                subst hl
                right
                by_cases hb : hasB e.kind
                · rw [if_pos hb]; rfl
                · rw [if_neg hb]; rfl
            · split at hl
              · injection hl with hl; subst hl; exact .inr rfl
              · split at hl
                · injection hl with hl; subst hl; exact .inr rfl
                · split at hl
                  · injection hl with hl; subst hl; exact .inr rfl
                  · injection hl with hl; subst hl; exact .inl rfl
theorem fmt_small {b : Nat → Int} {l : List Prod} (h : rfitsB b l = true) : (fmtS b l).data.toList.length ≤ 200 := by
  have hfmt : fmtS b l = ⟨#[123]⟩ ++ joinS (fparts b l l.length) ++ ⟨#[125]⟩ := by unfold fmtS; rw [if_pos h]
  unfold rfitsB fitsB at h
  simp only [Bool.and_eq_true, beq_iff_eq] at h
  obtain ⟨hz, hv, ht⟩ := h
  have h6 := (checkE_zero hz).2.1
  have hm : ∀ x ∈ fparts b l l.length, x.size ≤ 14 := fparts_mem (fun p hp => nameOk_size (checkGo_range l 0 (checkE_zero hz).2.2 p hp).2) _ (Nat.le_refl _)
  have h1 := joinS_size _ hm
  have h2 := fparts_len b l l.length
  have h3 : (fmtS b l).size ≤ 200 := by
    rw [hfmt]
    simp only [ByteArray.size_append]
    show 1 + _ + 1 ≤ 200
    omega
  exact h3
theorem dec2 {n : Nat} (h : n ≤ 29) : (Lib.decDigits n).length ≤ 2 := by
  by_cases h1 : n < 10
  · rw [Lib.decDigits, dif_pos h1]; simp
  · rw [Lib.decDigits, dif_neg h1, List.length_append, Lib.decDigits, dif_pos (by omega)]
    simp
/-- an event of a valid setup without a text has a line -/
theorem line_some {S : SetD} {e : Evt} (hc : checkV e = 0) (hs : S.err = 0) (hb : e.bidder < (S.bs.length : Int)) (hw : ∀ k, S.ps.length ≤ k → k < 6 → e.want k = 0) (h1 : e.kind ≠ 1) (h5 : e.kind ≠ 5) : formatL S e ≠ [] := by
  obtain ⟨k1, k2, k3, k4, k5, k6⟩ := check_parts hc
  obtain ⟨n1, n2⟩ := name_some k1
  obtain ⟨s1, s2, _, _⟩ := setE_parts hs
  have hnt : ¬ hasT e.kind := by rintro (h | h); exact h1 h; exact h5 h
  have hfit : rfitsB e.want S.ps = true := by
    unfold rfitsB fitsB
    rw [s1, k5]
    have : tailB e.want S.ps.length = true := tailB_iff.2 fun j hj => by
      by_cases hlt : j < S.ps.length
      · exact .inl hlt
      · exact .inr (hw j (by omega) hj)
    rw [this]
    rfl
  have hbn : (bidB S e.bidder).length ≤ 12 := by
    unfold bidB
    have hi : e.bidder.toNat < S.bs.length := by omega
    rw [List.getD_eq_getElem?_getD, List.getElem?_eq_getElem hi]
    show (S.bs[e.bidder.toNat]).name.data.toList.length ≤ 12
    have hro : rosGo S.bs S.bs 0 = 0 := (rosE_zero s2).2.2
    have := (rosGo_all S.bs 0 hro _ (List.getElem_mem hi)).2
    exact nameOk_size this
  have hfl2 : (fmtS e.want S.ps).data.toList.length ≤ 200 := fmt_small hfit
  have key : ∃ t, lastL S e = some t ∧ t.length ≤ 300 := by
    unfold lastL
    rw [if_neg (by rintro ⟨_, h | h⟩; exact h hs; omega)]
    by_cases h2 : e.kind = 2
    · rw [if_pos h2, if_pos hfit]
      refine ⟨_, rfl, ?_⟩
      simp only [List.length_append, List.length_cons]
      omega
    · rw [if_neg h2, if_neg hnt]
      by_cases h8 : e.kind = 8
      · rw [if_pos h8]
        refine ⟨_, rfl, ?_⟩
        have : (Lib.decDigits e.round.toNat).length ≤ 2 := dec2 (by omega)
        simp only [List.length_cons]
        omega
      · rw [if_neg h8]
        by_cases h10 : e.kind = 10
        · rw [if_pos h10]
          refine ⟨_, rfl, ?_⟩
          simp only [List.length_cons, Sum.hexL_length]
          omega
        · rw [if_neg h10]
          by_cases hb2 : hasB e.kind
          · rw [if_pos hb2]
            refine ⟨_, rfl, ?_⟩
            simp only [List.length_cons]
            omega
          · rw [if_neg hb2]
            exact ⟨_, rfl, by simp⟩
  obtain ⟨t, ht, htl⟩ := key
  unfold formatL
  rw [if_neg (by rw [hc]; simp), ht]
  dsimp only
  rw [if_neg (by omega)]
  intro h
  have := congrArg List.length h
  have hz : (nameK e.kind).data.toList.length = (nameK e.kind).size := rfl
  rw [List.length_append, hz, List.length_nil] at this
  omega
end Go.Proofs.YtaikmgnpfbnjjaaGreatDoor.Ev
namespace Go.Proofs.YtaikmgnpfbnjjaaGreatDoor.Ev
open Go.ChangeShapes Go.WideShapes Go.ChangeAt Go.RowKit Gn Cat Lex Ros Se
set_option linter.unusedVariables false
set_option linter.unusedSimpArgs false
theorem split_cut : ∀ l : List UInt8, splitL 32 l = if (cutL l).2.2 = true then (cutL l).1 :: splitL 32 (cutL l).2.1 else [(cutL l).1]
  | [] => rfl
  | c :: r => by
    have hc : cutL (c :: r) = if c = 32 then ([], r, true) else (c :: (cutL r).1, (cutL r).2.1, (cutL r).2.2) := rfl
    have hs : splitL 32 (c :: r) = if c = 32 then [] :: splitL 32 r else consH c (splitL 32 r) := rfl
    rw [hc, hs]
    by_cases h : c = 32
    · rw [if_pos h, if_pos h]
      rfl
    · rw [if_neg h, if_neg h, split_cut r]
      dsimp only
      by_cases hm : (cutL r).2.2 = true
      · rw [if_pos hm, if_pos hm]; rfl
      · rw [if_neg hm, if_neg hm]; rfl
theorem split_one (l : List UInt8) : (splitL 32 l).length = 1 ↔ (cutL l).2.2 = false := by
  rw [split_cut]
  by_cases hm : (cutL l).2.2 = true
  · rw [if_pos hm, hm]
    have := splitL_ne 32 (cutL l).2.1
    have h0 : 0 < (splitL 32 (cutL l).2.1).length := List.length_pos_iff.2 this
    simp
    exact splitL_ne 32 _
  · rw [if_neg hm]
    simp at hm
    simp [hm]
theorem split_pos (l : List UInt8) : 0 < (splitL 32 l).length := List.length_pos_iff.2 (splitL_ne 32 l)
theorem split_two (l : List UInt8) : (splitL 32 l).length = 2 ↔ (cutL l).2.2 = true ∧ (cutL (cutL l).2.1).2.2 = false := by
  rw [split_cut]
  by_cases hm : (cutL l).2.2 = true
  · rw [if_pos hm, List.length_cons, ← split_one]
    simp [hm]
  · rw [if_neg hm]
    simp [hm]
theorem split_three (l : List UInt8) : (splitL 32 l).length = 3 ↔ (cutL l).2.2 = true ∧ ((cutL (cutL l).2.1).2.2 = true ∧ (cutL (cutL (cutL l).2.1).2.1).2.2 = false) := by
  rw [split_cut]
  by_cases hm : (cutL l).2.2 = true
  · rw [if_pos hm, List.length_cons, ← split_two]
    simp [hm]
  · rw [if_neg hm]
    simp [hm]
/-- the words of a kind without a text are as many as Split's -/
def wordsN (k : Int) : Nat := if k = 3 ∨ k = 4 ∨ k = 9 then 1 else if k = 2 then 3 else 2
theorem words_split {k : Int} (h1 : k ≠ 1) (h5 : k ≠ 5) (l : List UInt8) : wordsL k (cutL l).2.1 (cutL l).2.2 = decide ((splitL 32 l).length = wordsN k) := by
  unfold wordsL wordsN
  rw [if_neg h1, if_neg h5]
  by_cases h3 : k = 3 ∨ k = 4 ∨ k = 9
  · rw [if_pos h3, if_pos h3, Bool.eq_iff_iff, decide_eq_true_iff, split_one]
    cases (cutL l).2.2 <;> simp
  · rw [if_neg h3, if_neg h3]
    by_cases h2 : k = 2
    · rw [if_pos h2, if_pos h2, Bool.eq_iff_iff, decide_eq_true_iff, split_three]
      cases (cutL l).2.2 <;> cases (cutL (cutL l).2.1).2.2 <;> cases (cutL (cutL (cutL l).2.1).2.1).2.2 <;> simp
    · rw [if_neg h2, if_neg h2, Bool.eq_iff_iff, decide_eq_true_iff, split_two]
      cases (cutL l).2.2 <;> cases (cutL (cutL l).2.1).2.2 <;> simp
/-- a byte replaced by another: the same where there is none -/
theorem repl_same {a b : UInt8} (h : a ≠ b) : ∀ l : List UInt8, replL a b l = l ↔ l.contains a = false
  | [] => by simp [replL]
  | c :: l => by
    have ih := repl_same h l
    unfold replL at ih ⊢
    rw [List.map_cons, List.contains_cons]
    by_cases hc : c = a
    · rw [if_pos hc]
      subst hc
      simp
      intro hb
      exact absurd hb.symm h
    · rw [if_neg hc]
      have : (a == c) = false := by simp; exact fun e => hc e.symm
      rw [this, Bool.false_or, ← ih]
      simp
theorem repl_len (a b : UInt8) (l : List UInt8) : (replL a b l).length = l.length := by unfold replL; simp
end Go.Proofs.YtaikmgnpfbnjjaaGreatDoor.Ev
namespace Go.Proofs.YtaikmgnpfbnjjaaGreatDoor.Ev
open Go.ChangeShapes Go.WideShapes Go.ChangeAt Go.RowKit Gn Cat Lex Ros Se
set_option linter.unusedVariables false
set_option linter.unusedSimpArgs false
theorem cut_yes : ∀ {l : List UInt8}, (cutL l).2.2 = true → Lib.index l [32] = (((cutL l).1.length : Nat) : Int) ∧ l = (cutL l).1 ++ 32 :: (cutL l).2.1
  | [], h => by cases h
  | c :: r, h => by
    have hc : cutL (c :: r) = if c = 32 then ([], r, true) else (c :: (cutL r).1, (cutL r).2.1, (cutL r).2.2) := rfl
    rw [hc] at h ⊢
    by_cases h1 : c = 32
    · rw [if_pos h1]
      subst h1
      exact ⟨index_eq 32 r, rfl⟩
    · rw [if_neg h1] at h ⊢
      obtain ⟨i1, i2⟩ := cut_yes (l := r) h
      refine ⟨?_, ?_⟩
      · rw [index_ne c 32 r h1, i1, if_neg (fun e => by have := beq_iff_eq.1 e; omega)]
        show _ = ((((cutL r).1.length + 1 : Nat)) : Int)
        omega
      · show c :: r = c :: ((cutL r).1 ++ 32 :: (cutL r).2.1)
        rw [← i2]
theorem cut_no : ∀ {l : List UInt8}, (cutL l).2.2 = false → Lib.index l [32] = -1 ∧ (cutL l).1 = l ∧ (cutL l).2.1 = []
  | [], _ => ⟨rfl, rfl, rfl⟩
  | c :: r, h => by
    have hc : cutL (c :: r) = if c = 32 then ([], r, true) else (c :: (cutL r).1, (cutL r).2.1, (cutL r).2.2) := rfl
    rw [hc] at h ⊢
    by_cases h1 : c = 32
    · rw [if_pos h1] at h; cases h
    · rw [if_neg h1] at h ⊢
      obtain ⟨i1, i2, i3⟩ := cut_no (l := r) h
      exact ⟨by rw [index_ne c 32 r h1, i1]; rfl, by show c :: (cutL r).1 = _; rw [i2], i3⟩
theorem cut_size (l : List UInt8) : (cutL l).1.length ≤ l.length ∧ (cutL l).2.1.length ≤ l.length := by
  cases h : (cutL l).2.2 with
  | true =>
    have := congrArg List.length (cut_yes h).2
    rw [List.length_append, List.length_cons] at this
    omega
  | false => rw [(cut_no h).2.1, (cut_no h).2.2]; simp
theorem cut_parts {l a b : List UInt8} (h : l = a ++ 32 :: b) : l.take a.length = a ∧ l.drop (a.length + [(32 : UInt8)].length) = b := by
  subst h
  refine ⟨List.take_left, ?_⟩
  rw [← List.drop_drop, List.drop_left]
  rfl
theorem cut_one (l : List UInt8) : Lib.cut l [32] = cutL l := by
  unfold Lib.cut
  cases h : (cutL l).2.2 with
  | true =>
    obtain ⟨i1, i2⟩ := cut_yes h
    rw [i1, if_pos (by omega), Int.toNat_natCast]
    obtain ⟨e1, e2⟩ := cut_parts i2
    rw [e1, e2, ← h]
  | false =>
    obtain ⟨i1, i2, i3⟩ := cut_no h
    rw [i1, if_neg (by omega)]
    exact Prod.ext i2.symm (Prod.ext i3.symm h.symm)
/-- at most k cuts -/
def cutsL : Nat → List UInt8 → List (List UInt8)
  | 0, l => [l]
  | k + 1, l => if (cutL l).2.2 = true then (cutL l).1 :: cutsL k (cutL l).2.1 else [l]
theorem splitK_cuts : ∀ (k : Nat) (l : List UInt8), Lib.splitK [32] 0 k l = cutsL k l
  | 0, l => rfl
  | k + 1, l => by
    rw [Lib.splitK, cutsL]
    cases h : (cutL l).2.2 with
    | true =>
      obtain ⟨i1, i2⟩ := cut_yes h
      rw [i1, if_neg (fun e => by have := beq_iff_eq.1 e; omega), if_pos rfl, Int.toNat_natCast]
      obtain ⟨e1, e2⟩ := cut_parts i2
      rw [Nat.add_zero, e1, e2, splitK_cuts k]
    | false =>
      rw [(cut_no h).1]
      rfl
theorem cuts_ge : ∀ (m : Nat) (l : List UInt8), l.length ≤ m → ∀ k, l.length ≤ k → cutsL m l = cutsL k l
  | 0, l, h, k, hk => by
    have : l = [] := List.eq_nil_of_length_eq_zero (by omega)
    subst this
    cases k with
    | zero => rfl
    | succ k => rfl
  | m + 1, l, h, k, hk => by
    cases k with
    | zero =>
      have : l = [] := List.eq_nil_of_length_eq_zero (by omega)
      subst this
      rfl
    | succ k =>
      rw [cutsL, cutsL]
      cases hc : (cutL l).2.2 with
      | true =>
        have := congrArg List.length (cut_yes hc).2
        rw [List.length_append, List.length_cons] at this
        rw [if_pos rfl, if_pos rfl, cuts_ge m _ (by omega) k (by omega)]
      | false => rw [if_neg (by simp), if_neg (by simp)]
theorem cuts_min (n : Nat) (l : List UInt8) (hn : 1 ≤ n) : cutsL (min n (l.length + 1) - 1) l = cutsL (n - 1) l := by
  by_cases h : n ≤ l.length + 1
  · rw [Nat.min_eq_left h]
  · rw [Nat.min_eq_right (by omega)]
    exact cuts_ge _ _ (by omega) _ (by omega)
def cutsS (k : Nat) (s : ByteArray) : List ByteArray := (cutsL k s.data.toList).map fun l => ⟨l.toArray⟩
theorem splitB_cuts (n : Nat) (s : ByteArray) (hn : 1 ≤ n) : Lib.splitB ⟨#[32]⟩ 0 (min n (s.size + 1) - 1) s = cutsS (n - 1) s := by
  have h := Lib.splitB_data ⟨#[32]⟩ 0 (min n (s.size + 1) - 1) s
  have h2 := congrArg (List.map fun l : List UInt8 => (⟨l.toArray⟩ : ByteArray)) h
  rw [List.map_map] at h2
  rw [show (((fun l : List UInt8 => (⟨l.toArray⟩ : ByteArray)) ∘ fun x : ByteArray => x.data.toList)) = id from rfl, List.map_id] at h2
  rw [h2]
  show List.map _ (Lib.splitK [32] 0 _ s.data.toList) = _
  rw [splitK_cuts, show s.size = s.data.toList.length from rfl, cuts_min n _ hn]
  rfl
/-- one byte in place of another -/
theorem replaceK_one {a b : UInt8} : ∀ l : List UInt8, Lib.replaceK [a] [b] (Lib.count l [a]) l = replL a b l
  | [] => by
    rw [Lib.count_miss (by simp [Lib.index])]
    rfl
  | x :: r => by
    have hr : replL a b (x :: r) = (if x = a then b else x) :: replL a b r := rfl
    by_cases h : x = a
    · subst h
      rw [Lib.count_cons_eq, Nat.add_comm, Lib.replaceK_hit _ _ _ _ 0 (index_eq x r), hr, if_pos rfl]
      show [] ++ [b] ++ Lib.replaceK [x] [b] (Lib.count r [x]) ((x :: r).drop (0 + [x].length)) = _
      rw [show (0 + [x].length) = 1 from rfl, List.drop_succ_cons, List.drop_zero, replaceK_one r]
      rfl
    · rw [Lib.count_cons_ne x a r h, hr, if_neg h, ← replaceK_one r]
      by_cases hm : Lib.index r [a] = -1
      · rw [Lib.count_miss hm]
        rfl
      · have hge := Lib.index_ge r [a]
        obtain ⟨j, hj⟩ : ∃ j : Nat, Lib.index r [a] = j := ⟨(Lib.index r [a]).toNat, by omega⟩
        have hc : Lib.count r [a] = Lib.count (r.drop (j + [a].length)) [a] + 1 := by rw [Lib.count_hit (by simp) hj]; omega
        have hix : Lib.index (x :: r) [a] = ((j + 1 : Nat) : Int) := by rw [index_ne x a r h, if_neg (fun e => hm (beq_iff_eq.1 e)), hj]; omega
        rw [hc, Lib.replaceK_hit _ _ _ _ _ hix, Lib.replaceK_hit _ _ _ _ _ hj]
        simp only [List.length_cons, List.length_nil, Nat.zero_add, List.take_succ_cons, List.cons_append]
        rw [show j + 1 + 1 = (j + 1) + 1 from rfl, List.drop_succ_cons]
theorem replace_one {a b : UInt8} (h : a ≠ b) (l : List UInt8) : Lib.replaceAll l [a] [b] = replL a b l := by
  unfold Lib.replaceAll Lib.replace Lib.replaceNum
  rw [if_neg (by simp [h]), if_pos (.inl (by decide)), replaceK_one]
/-- ends, and what is in a list -/
theorem suffix_one (c : UInt8) (l : List UInt8) : Lib.hasSuffix l [c] = (l.getLast? == some c) := by
  unfold Lib.hasSuffix List.isSuffixOf
  rw [← List.head?_reverse]
  cases l.reverse with
  | nil => rfl
  | cons x r =>
    show ((c == x) && true) = (some x == some c)
    rw [Bool.and_true, Bool.eq_iff_iff, beq_iff_eq, beq_iff_eq]
    constructor
    · rintro rfl; rfl
    · intro h; injection h with h; exact h.symm
theorem trim_one (c : UInt8) (l : List UInt8) : Lib.trimSuffix l [c] = if l.getLast? = some c then l.dropLast else l := by
  unfold Lib.trimSuffix
  rw [suffix_one, List.dropLast_eq_take]
  by_cases h : l.getLast? = some c
  · rw [if_pos h, if_pos (by rw [h]; simp)]
    rfl
  · rw [if_neg h, if_neg (by simpa using h)]
theorem trim_back {c : UInt8} {l : List UInt8} (h : l.getLast? = some c) : l.dropLast ++ [c] = l := by
  have hne : l ≠ [] := fun e => by rw [e] at h; cases h
  rw [List.getLast?_eq_some_getLast hne] at h
  injection h with h
  rw [← h]
  exact List.dropLast_concat_getLast hne
theorem set_trim (l : List UInt8) : Lib.trimSuffix (replL 59 10 l) [10] ++ [10] = setT l := by
  rw [trim_one]
  unfold setT
  by_cases h : (replL 59 10 l).getLast? = some 10
  · rw [if_pos h, if_pos h, trim_back h]
  · rw [if_neg h, if_neg h]
theorem indexByte_iff (c : UInt8) : ∀ l : List UInt8, decide (0 ≤ Lib.indexByte l c) = l.contains c
  | [] => rfl
  | x :: r => by
    have ih := indexByte_iff c r
    have hge := Lib.indexByte_ge r c
    rw [List.contains_cons, ← ih, Lib.indexByte]
    by_cases h : (x == c) = true
    · rw [if_pos h]
      have : (c == x) = true := by simp at h ⊢; exact h.symm
      rw [this]; rfl
    · rw [if_neg h]
      have h2 : (c == x) = false := by simp at h ⊢; exact fun e => h e.symm
      rw [h2, Bool.false_or]
      by_cases hm : Lib.indexByte r c = -1
      · rw [hm]; rfl
      · rw [if_neg (by simpa using hm), Bool.eq_iff_iff, decide_eq_true_iff, decide_eq_true_iff]
        omega
/-- the last word of a sale's text, as the program finds it -/
theorem contains_dropLast {t : List UInt8} {c d : UInt8} (h : t.getLast? = some d) (hne : c ≠ d) : t.dropLast.contains c = t.contains c := by
  conv => rhs; rw [← trim_back h]
  rw [List.contains_append, List.contains_cons, List.contains_nil, Bool.or_false]
  have : (c == d) = false := by simpa using hne
  rw [this, Bool.or_false]
def saleB (t : List UInt8) : Bool := Lib.hasSuffix t [10] && (!(Lib.trimSuffix t [10]).isEmpty && (!Lib.hasSuffix (Lib.trimSuffix t [10]) [10] && !(Lib.trimSuffix t [10]).contains 59))
theorem sale_text (t : List UInt8) : lastT 1 t = if saleB t = true then some (replL 10 59 (Lib.trimSuffix t [10])) else none := by
  unfold lastT saleB
  rw [if_pos rfl, trim_one]
  simp only [suffix_one]
  by_cases h : t.getLast? = some 10
  · rw [if_pos h, contains_dropLast h (by decide)]
    congr 1
    rw [Bool.and_eq_true, Bool.and_eq_true, Bool.and_eq_true]
    simp [h]
  · rw [if_neg h]
    have h2 : (t.getLast? == some 10) = false := by simpa using h
    rw [h2, Bool.false_and, if_neg (fun e => h e.1), if_neg (by simp)]
end Go.Proofs.YtaikmgnpfbnjjaaGreatDoor.Ev
namespace Go.Proofs.YtaikmgnpfbnjjaaGreatDoor.Ev
open Go.ChangeShapes Go.WideShapes Go.ChangeAt Go.RowKit Gn Cat Lex
set_option linter.unusedVariables false
set_option linter.unusedSimpArgs false
theorem uintF_more : ∀ (k x : Nat), x < 128 ^ (k + 1) → uintF (k + 1) x = uintF k x
  | 0, x, h => by
    have h1 : x < 128 := by simpa using h
    show (if x < 128 then [UInt8.ofNat x] else _) = [UInt8.ofNat x]
    rw [if_pos h1]
  | k + 1, x, h => by
    show (if x < 128 then [UInt8.ofNat x] else UInt8.ofNat (128 + x % 128) :: uintF (k + 1) (x / 128)) = (if x < 128 then [UInt8.ofNat x] else UInt8.ofNat (128 + x % 128) :: uintF k (x / 128))
    rw [uintF_more k (x / 128) (by rw [Nat.div_lt_iff_lt_mul (by decide)]; rw [Nat.pow_succ] at h; exact h)]
theorem uintL_small {x : Nat} (h : x < 128) : uintL x = [UInt8.ofNat x] := by
  show (if x < 128 then [UInt8.ofNat x] else _) = _
  rw [if_pos h]
theorem uintL_big {x : Nat} (h : ¬ x < 128) (hx : x < 18446744073709551616) : uintL x = UInt8.ofNat (128 + x % 128) :: uintL (x / 128) := by
  show (if x < 128 then [UInt8.ofNat x] else UInt8.ofNat (128 + x % 128) :: uintF 8 (x / 128)) = _
  rw [if_neg h, ← uintF_more 8 (x / 128) (by have : (128 : Nat) ^ (8 + 1) = 9223372036854775808 := rfl; omega)]
  rfl
theorem uintF_len : ∀ (k x : Nat), (uintF k x).length ≤ k + 1
  | 0, x => Nat.le_refl _
  | k + 1, x => by
    show (if x < 128 then [UInt8.ofNat x] else UInt8.ofNat (128 + x % 128) :: uintF k (x / 128)).length ≤ _
    have := uintF_len k (x / 128)
    split <;> simp
    omega
theorem uintL_len (x : Nat) : (uintL x).length ≤ 10 := uintF_len 9 x
def uintB (x : Nat) : ByteArray := ⟨(uintL x).toArray⟩
theorem uintB_size (x : Nat) : (uintB x).size ≤ 10 := by
  show ((uintL x).toArray).size ≤ 10
  rw [List.size_toArray]
  exact uintL_len x
def u8s (l : List UInt8) : List Value := l.map fun b => Value.int .u8 (b.toNat : Int)
theorem u8s_app (l k : List UInt8) : u8s (l ++ k) = u8s l ++ u8s k := by simp [u8s]
theorem or128N : ∀ x : Fin 256, x.val ||| 128 = 128 + x.val % 128 := by decide +kernel
theorem or128 (x : Nat) (v : Int) (hv : v = ((x % 256 : Nat) : Int)) : bits .or .u8 v 128 = (((UInt8.ofNat (128 + x % 128)).toNat : Nat) : Int) := by
  have h := or128N ⟨x % 256, Nat.mod_lt _ (by decide)⟩
  rw [hv, show (128 : Int) = ((128 : Nat) : Int) from rfl, u8_or_nat _ 128 (Nat.mod_lt _ (by decide)) (by decide)]
  rw [h]
  have : x % 256 % 128 = x % 128 := Nat.mod_mod_of_dvd x (by decide)
  show ((128 + x % 256 % 128 : Nat) : Int) = (((128 + x % 128) % 256 : Nat) : Int)
  rw [this]
  omega
theorem rdGo_nil {most : Nat} {l0 : List UInt8} (i x : Nat) : rdGo most l0 [] i x = (0, ⟨l0, 1⟩) := rfl
theorem rdGo_cons {most : Nat} {l0 : List UInt8} (b : UInt8) (l : List UInt8) (i x : Nat) : rdGo most l0 (b :: l) i x =
    if i = 9 ∧ 1 < b.toNat then (0, ⟨l0, 2⟩)
    else if 128 ≤ b.toNat then rdGo most l0 l (i + 1) (x + b.toNat % 128 * 128 ^ i)
    else if b.toNat = 0 ∧ 0 < i then (0, ⟨l0, 2⟩)
    else if most < x + b.toNat % 128 * 128 ^ i then (0, ⟨l0, 4⟩)
    else (x + b.toNat % 128 * 128 ^ i, ⟨l, 0⟩) := rfl
/-- a group of seven bits above those that are read -/
theorem group_or {y d : Nat} (i : Nat) (h : y < 128 ^ i) : y ||| (d * 128 ^ i) = y + d * 128 ^ i := by
  have e : (128 : Nat) ^ i = 2 ^ (7 * i) := by rw [Nat.pow_mul]
  rw [e] at h ⊢
  rw [Nat.or_comm, ← Nat.shiftLeft_eq, Nat.add_comm, Nat.shiftLeft_add_eq_or_of_lt h]
theorem group_lt {y d : Nat} (i : Nat) (h : y < 128 ^ i) (hd : d < 128) : y + d * 128 ^ i < 128 ^ (i + 1) := by
  rw [Nat.pow_succ]
  have : d * 128 ^ i ≤ 127 * 128 ^ i := Nat.mul_le_mul_right _ (by omega)
  omega
theorem pow_nine {i : Nat} (h : i ≤ 9) : 128 ^ i ≤ 9223372036854775808 := Nat.pow_le_pow_right (n := 128) (by decide) h
theorem group_small {b k : Nat} (hk : k ≤ 9) (h9 : k = 9 → b ≤ 1) : b % 128 * 128 ^ k < 18446744073709551616 := by
  rcases Nat.lt_or_eq_of_le hk with h | h
  · have h1 : (128 : Nat) ^ k ≤ 128 ^ 8 := Nat.pow_le_pow_right (by decide) (by omega)
    have h2 : b % 128 * 128 ^ k ≤ 127 * 128 ^ 8 := Nat.mul_le_mul (by omega) h1
    have h3 : (127 : Nat) * 128 ^ 8 = 9151314442816847872 := by decide
    omega
  · have h1 := h9 h
    subst h
    have h2 : b % 128 * 128 ^ 9 ≤ 1 * 128 ^ 9 := Nat.mul_le_mul (by omega) (Nat.le_refl _)
    have h3 : (1 : Nat) * 128 ^ 9 = 9223372036854775808 := by decide
    omega
theorem pow_int (k : Nat) : (2 : Int) ^ (7 * k) = ((128 ^ k : Nat) : Int) := by
  rw [Int.pow_mul]
  simp
theorem group_val {y b k : Nat} (hb : b < 256) (hy : y < 128 ^ k) (hk : k ≤ 9) (h9 : k = 9 → b ≤ 1) :
    bits .or .u64 (y : Int) (IntKind.u64.wrap (IntKind.u64.wrap (bits .and .u8 (b : Int) 127) * 2 ^ (7 * k))) = ((y + b % 128 * 128 ^ k : Nat) : Int) := by
  have e1 : bits .and .u8 (b : Int) 127 = ((b % 128 : Nat) : Int) := by
    rw [show (127 : Int) = ((127 : Nat) : Int) from rfl, u8_and_nat b 127 hb (by decide), show (127 : Nat) = 2 ^ 7 - 1 from rfl, Nat.and_two_pow_sub_one_eq_mod]
  have h1 := group_small (b := b) hk h9
  have h2 := pow_nine hk
  have h3 : b % 128 < 128 := Nat.mod_lt _ (by decide)
  rw [e1, IntWalk.u64_in ((b % 128 : Nat) : Int) ⟨by omega, by omega⟩, pow_int, ← Int.natCast_mul]
  rw [IntWalk.u64_in ((b % 128 * 128 ^ k : Nat) : Int) ⟨by omega, by omega⟩, u64_or_nat y _ (by omega) h1, group_or k hy]
end Go.Proofs.YtaikmgnpfbnjjaaGreatDoor.Ev
namespace Go.Proofs.YtaikmgnpfbnjjaaGreatDoor.Ev
open Go.ChangeShapes Go.WideShapes Go.ChangeAt Go.RowKit Gn Cat Lex Ros Se
set_option linter.unusedVariables false
set_option linter.unusedSimpArgs false
/-- a number, cut at m -/
def minV (m : Nat) (l : List UInt8) : Nat := min (val l) m
theorem minV_nil (m : Nat) : minV m [] = 0 := Nat.min_eq_left (Nat.zero_le _)
theorem minV_snoc (m : Nat) (l : List UInt8) (b : UInt8) : minV m (l ++ [b]) = min (10 * minV m l + (b.toNat - 48)) m := by
  unfold minV
  rw [val_snoc]
  omega
theorem minV_le (m : Nat) (l : List UInt8) : minV m l ≤ m := Nat.min_le_right _ _
theorem minV_big {m n : Nat} {l : List UInt8} (h : n < m) : (n < minV m l ↔ n < val l) ∧ (val l ≤ n → minV m l = val l) := by
  unfold minV
  omega
theorem digB_snoc {l : List UInt8} {b : UInt8} (h : digB l = true) : digB (l ++ [b]) = isDig b := by
  unfold digB at h ⊢
  rw [List.all_append, h, Bool.true_and]
  simp
theorem digB_fail {l : List UInt8} {k : Nat} (hk : k < l.length) (h : isDig l[k] = false) : digB l = false := by
  unfold digB
  rw [List.all_eq_false]
  exact ⟨l[k], List.getElem_mem hk, by simpa using h⟩
theorem decR_nil : decR [] = (0, 2) := rfl
theorem decR_head {l : List UInt8} (h1 : 1 < l.length) (h2 : l.head? = some 48) : decR l = (0, 2) := by
  unfold decR
  rw [if_pos (.inr (.inl ⟨h1, h2⟩))]
theorem decR_bad {l : List UInt8} (h : digB l = false) : decR l = (0, 2) := by
  unfold decR
  rw [if_pos (.inr (.inr h))]
theorem decR_good {l : List UInt8} (h0 : l ≠ []) (h1 : ¬ (1 < l.length ∧ l.head? = some 48)) (h2 : digB l = true) : decR l = if 29 < val l then (0, 4) else ((val l : Int), 0) := by
  unfold decR
  rw [if_neg]
  rintro (h | h | h)
  · exact h0 h
  · exact h1 h
  · rw [h2] at h; cases h
/-- numbers below a hundred -/
theorem dec_small {n : Nat} (h : n < 10) : Lib.decDigits n = [UInt8.ofNat (48 + n)] := by
  rw [Lib.decDigits, dif_pos h]
theorem dec_big {n : Nat} (h : ¬ n < 10) : Lib.decDigits n = Lib.decDigits (n / 10) ++ [UInt8.ofNat (48 + n % 10)] := by
  rw [Lib.decDigits, dif_neg h]
theorem textL_len (s : ByteArray) : s.size ≤ (textL s).length ∧ (textL s).length ≤ 10 + s.size := by
  have := uintL_len s.size
  unfold textL
  rw [List.length_append, show s.data.toList.length = s.size from rfl]
  omega
/-- a long text makes a long encoding -/
theorem code_text {e : Evt} (h : evEq e (bareE e) = true) (ht : 4000 < e.text.size) : 4000 < (codeL e).length := by
  have hT : hasT e.kind := by
    by_cases hT : hasT e.kind
    · exact hT
    · exfalso
      unfold evEq bareE at h
      simp only [Bool.and_eq_true] at h
      obtain ⟨_, _, _, _, h5, _⟩ := h
      rw [if_neg hT, eqB_iff] at h5
      rw [h5] at ht
      exact absurd ht (by decide)
  have := (textL_len e.text).1
  unfold codeL
  rw [if_pos hT]
  simp only [List.length_append]
  omega
theorem code_len (e : Evt) : (codeL e).length ≤ 120 + e.text.size := by
  have h0 := uintL_len e.kind.toNat
  have h1 := uintL_len e.bidder.toNat
  have h2 := uintL_len e.round.toNat
  have w0 := uintL_len (e.want 0).toNat
  have w1 := uintL_len (e.want 1).toNat
  have w2 := uintL_len (e.want 2).toNat
  have w3 := uintL_len (e.want 3).toNat
  have w4 := uintL_len (e.want 4).toNat
  have w5 := uintL_len (e.want 5).toNat
  have ht := (textL_len e.text).2
  have hd := uintL_len e.digest
  unfold codeL
  simp only [List.length_append]
  have e1 : (if hasB e.kind then uintL e.bidder.toNat else []).length ≤ 10 := by split <;> simp [h1]
  have e2 : (if e.kind = 8 then uintL e.round.toNat else []).length ≤ 10 := by split <;> simp [h2]
  have e3 : (if e.kind = 2 then uintL (e.want 0).toNat ++ (uintL (e.want 1).toNat ++ (uintL (e.want 2).toNat ++ (uintL (e.want 3).toNat ++ (uintL (e.want 4).toNat ++ uintL (e.want 5).toNat)))) else []).length ≤ 60 := by
    split
    · simp only [List.length_append]; omega
    · simp
  have e4 : (if hasT e.kind then textL e.text else []).length ≤ 10 + e.text.size := by split; exact ht; exact Nat.zero_le _
  have e5 : (if e.kind = 10 then uintL e.digest else []).length ≤ 10 := by split <;> simp [hd]
  omega
/-- kinds by name, as the loops find them -/
theorem kindOf_name {k : Int} (h : 1 ≤ k ∧ k ≤ 10) : kindOf (nameK k).data.toList = k := by
  have key : ∀ i : Fin 10, kindOf (nameK ((i.val : Int) + 1)).data.toList = (i.val : Int) + 1 := by decide +kernel
  obtain ⟨i, hi⟩ : ∃ i : Fin 10, k = (i.val : Int) + 1 := ⟨⟨(k - 1).toNat, by omega⟩, by show k = (((k - 1).toNat : Nat) : Int) + 1; omega⟩
  subst hi
  exact key i
theorem kindOf_none {n : ByteArray} (h : ∀ k : Int, 1 ≤ k → k ≤ 10 → nameK k ≠ n) : kindOf n.data.toList = 0 := by
  have q : ∀ k : Int, 1 ≤ k → k ≤ 10 → ¬ n.data.toList = (nameK k).data.toList := fun k h1 h2 e => h k h1 h2 (ByteArray.ext (Array.toList_inj.1 e.symm))
  unfold kindOf
  rw [if_neg (q 1 (by decide) (by decide)), if_neg (q 2 (by decide) (by decide)), if_neg (q 3 (by decide) (by decide)), if_neg (q 4 (by decide) (by decide)), if_neg (q 5 (by decide) (by decide)), if_neg (q 6 (by decide) (by decide)), if_neg (q 7 (by decide) (by decide)), if_neg (q 8 (by decide) (by decide)), if_neg (q 9 (by decide) (by decide)), if_neg (q 10 (by decide) (by decide))]
end Go.Proofs.YtaikmgnpfbnjjaaGreatDoor.Ev
