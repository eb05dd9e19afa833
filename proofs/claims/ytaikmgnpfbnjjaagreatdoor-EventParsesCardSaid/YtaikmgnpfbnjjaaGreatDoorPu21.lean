/- Plain: the line of an event, the event of a line; names. Plain: the words of a line, by Split and by its first spaces. Plain: the library's string functions at one byte, in the words of the events' texts. -/
import Derived.Test.YtaikmgnpfbnjjaaGreatDoorPu19
import Derived.Test.YtaikmgnpfbnjjaaGreatDoorPu15
import Derived.Test.YtaikmgnpfbnjjaaGreatDoorPu16
import Derived.Lib.IndexMore
import Derived.Lib.Replace
import Derived.Lib.Strings
import Derived.Lib.Bytealg
namespace Go.Proofs.YtaikmgnpfbnjjaaGreatDoor.Ev
open Go.ChangeShapes Go.WideShapes Go.ChangeAt Go.RowKit Gn Cat Lex Ros Se
set_option linter.unusedVariables false
set_option linter.unusedSimpArgs false
def replL (a b : UInt8) (l : List UInt8) : List UInt8 := l.map fun c => if c = a then b else c
/-- the last word of an event with a text; none: it cannot be written -/
def lastT (k : Int) (t : List UInt8) : Option (List UInt8) :=
  if k = 1 then (if t.getLast? = some 10 ∧ t.dropLast ≠ [] ∧ t.dropLast.getLast? ≠ some 10 ∧ t.contains 59 = false then some (replL 10 59 t.dropLast) else none)
  else if t = [] ∨ t.head? = some 32 ∨ t.contains 10 = true then none else some t
def bidB (S : SetD) (i : Int) : List UInt8 := (S.bs.getD i.toNat Bid.none).name.data.toList
/-- what stands behind the name -/
def lastL (S : SetD) (e : Evt) : Option (List UInt8) :=
  if hasB e.kind ∧ (S.err ≠ 0 ∨ (S.bs.length : Int) ≤ e.bidder) then none
  else if e.kind = 2 then (if rfitsB e.want S.ps = true then some (32 :: bidB S e.bidder ++ 32 :: (fmtS e.want S.ps).data.toList) else none)
  else if hasT e.kind then (lastT e.kind e.text.data.toList).map fun t => (if hasB e.kind then 32 :: bidB S e.bidder else []) ++ 32 :: t
  else if e.kind = 8 then some (32 :: Lib.decDigits e.round.toNat)
  else if e.kind = 10 then some (32 :: Sum.hexL e.digest 16)
  else if hasB e.kind then some (32 :: bidB S e.bidder)
  else some []
def formatL (S : SetD) (e : Evt) : List UInt8 :=
  if checkV e ≠ 0 then []
  else match lastL S e with
    | none => []
    | some t => if 4000 < (nameK e.kind).size + t.length then [] else (nameK e.kind).data.toList ++ t
def formatV (S : SetD) (e : Evt) : ByteArray := ⟨(formatL S e).toArray⟩
/-- lines -/
def cutL : List UInt8 → List UInt8 × List UInt8 × Bool
  | [] => ([], [], false)
  | c :: r => if c = 32 then ([], r, true) else (c :: (cutL r).1, (cutL r).2.1, (cutL r).2.2)
def kindOf (n : List UInt8) : Int :=
  if n = (nameK 1).data.toList then 1 else if n = (nameK 2).data.toList then 2 else if n = (nameK 3).data.toList then 3 else if n = (nameK 4).data.toList then 4 else if n = (nameK 5).data.toList then 5
  else if n = (nameK 6).data.toList then 6 else if n = (nameK 7).data.toList then 7 else if n = (nameK 8).data.toList then 8 else if n = (nameK 9).data.toList then 9 else if n = (nameK 10).data.toList then 10 else 0
/-- has a line the words of its kind? -/
def wordsL (k : Int) (rest : List UInt8) (more : Bool) : Bool :=
  if k = 1 then more && !rest.isEmpty
  else if k = 3 ∨ k = 4 ∨ k = 9 then !more
  else if k = 5 then more && ((cutL rest).2.2 && (!(cutL rest).2.1.isEmpty && (!((cutL rest).2.1.head? == some 32) && !(cutL rest).2.1.contains 10)))
  else if k = 2 then more && ((cutL rest).2.2 && !(cutL (cutL rest).2.1).2.2)
  else more && !(cutL rest).2.2
def digB (l : List UInt8) : Bool := l.all fun c => isDig c
def decR (l : List UInt8) : Int × Int :=
  if l = [] ∨ (1 < l.length ∧ l.head? = some 48) ∨ digB l = false then (0, 2)
  else if 29 < val l then (0, 4) else ((val l : Int), 0)
def setT (l : List UInt8) : List UInt8 := if (replL 59 10 l).getLast? = some 10 then replL 59 10 l else replL 59 10 l ++ [10]
def ofL (l : List UInt8) : ByteArray := ⟨l.toArray⟩
/-- the field behind the bidder: the event, an error -/
def fieldV (S : SetD) (k : Int) (i : Int) (last : List UInt8) : Evt × Int :=
  if k = 1 then (⟨k, i, 0, zero6, ofL (setT last), 0⟩, 0)
  else if k = 5 then (⟨k, i, 0, zero6, ofL last, 0⟩, 0)
  else if k = 2 then (⟨k, i, 0, (parseF S.ps (ofL last)).1, ⟨#[]⟩, 0⟩, (parseF S.ps (ofL last)).2)
  else if k = 8 then (⟨k, i, (decR last).1, zero6, ⟨#[]⟩, 0⟩, (decR last).2)
  else if k = 10 then (match (if last.length = 16 then Sum.unh 0 last else none) with | none => (⟨k, i, 0, zero6, ⟨#[]⟩, 0⟩, 2) | some n => (⟨k, i, 0, zero6, ⟨#[]⟩, n⟩, 0))
  else (⟨k, i, 0, zero6, ⟨#[]⟩, 0⟩, 0)
def lastOf (k : Int) (rest : List UInt8) : List UInt8 := if hasB k then (cutL rest).2.1 else rest
def parseV (S : SetD) (s : ByteArray) : Evt × Int :=
  if 4000 < s.size then (noEvt, 3)
  else
    let q := cutL s.data.toList
    let k := kindOf q.1
    if k = 0 then (noEvt, 22)
    else if wordsL k q.2.1 q.2.2 = false then (noEvt, 2)
    else if hasB k ∧ findB S.bs (ofL (cutL q.2.1).1) = none then (noEvt, 6)
    else
      let f := fieldV S k (if hasB k then (((findB S.bs (ofL (cutL q.2.1).1)).getD 0 : Nat) : Int) else 0) (lastOf k q.2.1)
      if f.2 ≠ 0 then (noEvt, f.2)
      else if checkV f.1 ≠ 0 then (noEvt, checkV f.1)
      else (f.1, 0)
theorem name_some {k : Int} (h : 1 ≤ k ∧ k ≤ 10) : 0 < (nameK k).size ∧ (nameK k).size ≤ 10 := by
  have key : ∀ i : Fin 10, 0 < (nameK ((i.val : Int) + 1)).size ∧ (nameK ((i.val : Int) + 1)).size ≤ 10 := by decide +kernel
  obtain ⟨i, hi⟩ : ∃ i : Fin 10, k = (i.val : Int) + 1 := ⟨⟨(k - 1).toNat, by omega⟩, by show k = (((k - 1).toNat : Nat) : Int) + 1; omega⟩
  subst hi
  exact key i
theorem check_parts {e : Evt} (h : checkV e = 0) : (1 ≤ e.kind ∧ e.kind ≤ 10) ∧ evEq e (bareE e) = true ∧ (0 ≤ e.bidder ∧ e.bidder ≤ 7) ∧ (0 ≤ e.round ∧ e.round ≤ 29) ∧ validB e.want = true ∧ (codeL e).length ≤ 4000 := by
  unfold checkV at h
  split at h
  · cases h
  · rename_i h1
    split at h
    · cases h
    · rename_i h2
      split at h
      · cases h
      · rename_i h3
        have hv : validB e.want = true := by
          cases hx : validB e.want with
          | true => rfl
          | false => exact absurd (.inr (.inr (.inr (.inr hx)))) h2
        have he : evEq e (bareE e) = true := by
          cases hx : evEq e (bareE e) with
          | true => rfl
          | false => exact absurd (.inr hx) h1
        exact ⟨by omega, he, by omega, by omega, hv, by omega⟩
theorem fmt_small {b : Nat → Int} {l : List Prod} (h : rfitsB b l = true) : (fmtS b l).data.toList.length ≤ 200 := by
  have hfmt : fmtS b l = ⟨#[123]⟩ ++ joinS (fparts b l l.length) ++ ⟨#[125]⟩ := by unfold fmtS; rw [if_pos h]
  unfold rfitsB fitsB at h
  simp only [Bool.and_eq_true, beq_iff_eq] at h
  obtain ⟨hz, hv, ht⟩ := h
  have h6 := (checkE_zero hz).2.1
  have hm : ∀ x ∈ fparts b l l.length, x.size ≤ 14 := fparts_mem (fun p hp => nameOk_size (checkGo_range l 0 (checkE_zero hz).2.2 p hp).2) _ (Nat.le_refl _)
  have h1 := joinS_size _ hm
  have h2 := fparts_len b l l.length
  have h3 : (fmtS b l).size ≤ 200 := by
    rw [hfmt]
    simp only [ByteArray.size_append]
    show 1 + _ + 1 ≤ 200
    omega
  exact h3
theorem dec2 {n : Nat} (h : n ≤ 29) : (Lib.decDigits n).length ≤ 2 := by
  by_cases h1 : n < 10
  · rw [Lib.decDigits, dif_pos h1]; simp
  · rw [Lib.decDigits, dif_neg h1, List.length_append, Lib.decDigits, dif_pos (by omega)]
    simp
end Go.Proofs.YtaikmgnpfbnjjaaGreatDoor.Ev
namespace Go.Proofs.YtaikmgnpfbnjjaaGreatDoor.Ev
open Go.ChangeShapes Go.WideShapes Go.ChangeAt Go.RowKit Gn Cat Lex Ros Se
set_option linter.unusedVariables false
set_option linter.unusedSimpArgs false
theorem split_cut : ∀ l : List UInt8, splitL 32 l = if (cutL l).2.2 = true then (cutL l).1 :: splitL 32 (cutL l).2.1 else [(cutL l).1]
  | [] => rfl
  | c :: r => by
    have hc : cutL (c :: r) = if c = 32 then ([], r, true) else (c :: (cutL r).1, (cutL r).2.1, (cutL r).2.2) := rfl
    have hs : splitL 32 (c :: r) = if c = 32 then [] :: splitL 32 r else consH c (splitL 32 r) := rfl
    rw [hc, hs]
    by_cases h : c = 32
    · rw [if_pos h, if_pos h]
      rfl
    · rw [if_neg h, if_neg h, split_cut r]
      dsimp only
      by_cases hm : (cutL r).2.2 = true
      · rw [if_pos hm, if_pos hm]; rfl
      · rw [if_neg hm, if_neg hm]; rfl
theorem split_one (l : List UInt8) : (splitL 32 l).length = 1 ↔ (cutL l).2.2 = false := by
  rw [split_cut]
  by_cases hm : (cutL l).2.2 = true
  · rw [if_pos hm, hm]
    have := splitL_ne 32 (cutL l).2.1
    have h0 : 0 < (splitL 32 (cutL l).2.1).length := List.length_pos_iff.2 this
    simp
    exact splitL_ne 32 _
  · rw [if_neg hm]
    simp at hm
    simp [hm]
theorem split_two (l : List UInt8) : (splitL 32 l).length = 2 ↔ (cutL l).2.2 = true ∧ (cutL (cutL l).2.1).2.2 = false := by
  rw [split_cut]
  by_cases hm : (cutL l).2.2 = true
  · rw [if_pos hm, List.length_cons, ← split_one]
    simp [hm]
  · rw [if_neg hm]
    simp [hm]
theorem split_three (l : List UInt8) : (splitL 32 l).length = 3 ↔ (cutL l).2.2 = true ∧ ((cutL (cutL l).2.1).2.2 = true ∧ (cutL (cutL (cutL l).2.1).2.1).2.2 = false) := by
  rw [split_cut]
  by_cases hm : (cutL l).2.2 = true
  · rw [if_pos hm, List.length_cons, ← split_two]
    simp [hm]
  · rw [if_neg hm]
    simp [hm]
/-- the words of a kind without a text are as many as Split's -/
def wordsN (k : Int) : Nat := if k = 3 ∨ k = 4 ∨ k = 9 then 1 else if k = 2 then 3 else 2
theorem words_split {k : Int} (h1 : k ≠ 1) (h5 : k ≠ 5) (l : List UInt8) : wordsL k (cutL l).2.1 (cutL l).2.2 = decide ((splitL 32 l).length = wordsN k) := by
  unfold wordsL wordsN
  rw [if_neg h1, if_neg h5]
  by_cases h3 : k = 3 ∨ k = 4 ∨ k = 9
  · rw [if_pos h3, if_pos h3, Bool.eq_iff_iff, decide_eq_true_iff, split_one]
    cases (cutL l).2.2 <;> simp
  · rw [if_neg h3, if_neg h3]
    by_cases h2 : k = 2
    · rw [if_pos h2, if_pos h2, Bool.eq_iff_iff, decide_eq_true_iff, split_three]
      cases (cutL l).2.2 <;> cases (cutL (cutL l).2.1).2.2 <;> cases (cutL (cutL (cutL l).2.1).2.1).2.2 <;> simp
    · rw [if_neg h2, if_neg h2, Bool.eq_iff_iff, decide_eq_true_iff, split_two]
      cases (cutL l).2.2 <;> cases (cutL (cutL l).2.1).2.2 <;> simp
/-- a byte replaced by another: the same where there is none -/
theorem repl_same {a b : UInt8} (h : a ≠ b) : ∀ l : List UInt8, replL a b l = l ↔ l.contains a = false
  | [] => by simp [replL]
  | c :: l => by
    have ih := repl_same h l
    unfold replL at ih ⊢
    rw [List.map_cons, List.contains_cons]
    by_cases hc : c = a
    · rw [if_pos hc]
      subst hc
      simp
      intro hb
      exact absurd hb.symm h
    · rw [if_neg hc]
      have : (a == c) = false := by simp; exact fun e => hc e.symm
      rw [this, Bool.false_or, ← ih]
      simp
theorem repl_len (a b : UInt8) (l : List UInt8) : (replL a b l).length = l.length := by unfold replL; simp
end Go.Proofs.YtaikmgnpfbnjjaaGreatDoor.Ev
namespace Go.Proofs.YtaikmgnpfbnjjaaGreatDoor.Ev
open Go.ChangeShapes Go.WideShapes Go.ChangeAt Go.RowKit Gn Cat Lex Ros Se
set_option linter.unusedVariables false
set_option linter.unusedSimpArgs false
theorem cut_yes : ∀ {l : List UInt8}, (cutL l).2.2 = true → Lib.index l [32] = (((cutL l).1.length : Nat) : Int) ∧ l = (cutL l).1 ++ 32 :: (cutL l).2.1
  | [], h => by cases h
  | c :: r, h => by
    have hc : cutL (c :: r) = if c = 32 then ([], r, true) else (c :: (cutL r).1, (cutL r).2.1, (cutL r).2.2) := rfl
    rw [hc] at h ⊢
    by_cases h1 : c = 32
    · rw [if_pos h1]
      subst h1
      exact ⟨index_eq 32 r, rfl⟩
    · rw [if_neg h1] at h ⊢
      obtain ⟨i1, i2⟩ := cut_yes (l := r) h
      refine ⟨?_, ?_⟩
      · rw [index_ne c 32 r h1, i1, if_neg (fun e => by have := beq_iff_eq.1 e; omega)]
        show _ = ((((cutL r).1.length + 1 : Nat)) : Int)
        omega
      · show c :: r = c :: ((cutL r).1 ++ 32 :: (cutL r).2.1)
        rw [← i2]
theorem cut_no : ∀ {l : List UInt8}, (cutL l).2.2 = false → Lib.index l [32] = -1 ∧ (cutL l).1 = l ∧ (cutL l).2.1 = []
  | [], _ => ⟨rfl, rfl, rfl⟩
  | c :: r, h => by
    have hc : cutL (c :: r) = if c = 32 then ([], r, true) else (c :: (cutL r).1, (cutL r).2.1, (cutL r).2.2) := rfl
    rw [hc] at h ⊢
    by_cases h1 : c = 32
    · rw [if_pos h1] at h; cases h
    · rw [if_neg h1] at h ⊢
      obtain ⟨i1, i2, i3⟩ := cut_no (l := r) h
      exact ⟨by rw [index_ne c 32 r h1, i1]; rfl, by show c :: (cutL r).1 = _; rw [i2], i3⟩
theorem cut_size (l : List UInt8) : (cutL l).1.length ≤ l.length ∧ (cutL l).2.1.length ≤ l.length := by
  cases h : (cutL l).2.2 with
  | true =>
    have := congrArg List.length (cut_yes h).2
    rw [List.length_append, List.length_cons] at this
    omega
  | false => rw [(cut_no h).2.1, (cut_no h).2.2]; simp
theorem cut_parts {l a b : List UInt8} (h : l = a ++ 32 :: b) : l.take a.length = a ∧ l.drop (a.length + [(32 : UInt8)].length) = b := by
  subst h
  refine ⟨List.take_left, ?_⟩
  rw [← List.drop_drop, List.drop_left]
  rfl
theorem cut_one (l : List UInt8) : Lib.cut l [32] = cutL l := by
  unfold Lib.cut
  cases h : (cutL l).2.2 with
  | true =>
    obtain ⟨i1, i2⟩ := cut_yes h
    rw [i1, if_pos (by omega), Int.toNat_natCast]
    obtain ⟨e1, e2⟩ := cut_parts i2
    rw [e1, e2, ← h]
  | false =>
    obtain ⟨i1, i2, i3⟩ := cut_no h
    rw [i1, if_neg (by omega)]
    exact Prod.ext i2.symm (Prod.ext i3.symm h.symm)
/-- at most k cuts -/
def cutsL : Nat → List UInt8 → List (List UInt8)
  | 0, l => [l]
  | k + 1, l => if (cutL l).2.2 = true then (cutL l).1 :: cutsL k (cutL l).2.1 else [l]
theorem splitK_cuts : ∀ (k : Nat) (l : List UInt8), Lib.splitK [32] 0 k l = cutsL k l
  | 0, l => rfl
  | k + 1, l => by
    rw [Lib.splitK, cutsL]
    cases h : (cutL l).2.2 with
    | true =>
      obtain ⟨i1, i2⟩ := cut_yes h
      rw [i1, if_neg (fun e => by have := beq_iff_eq.1 e; omega), if_pos rfl, Int.toNat_natCast]
      obtain ⟨e1, e2⟩ := cut_parts i2
      rw [Nat.add_zero, e1, e2, splitK_cuts k]
    | false =>
      rw [(cut_no h).1]
      rfl
theorem cuts_ge : ∀ (m : Nat) (l : List UInt8), l.length ≤ m → ∀ k, l.length ≤ k → cutsL m l = cutsL k l
  | 0, l, h, k, hk => by
    have : l = [] := List.eq_nil_of_length_eq_zero (by omega)
    subst this
    cases k with
    | zero => rfl
    | succ k => rfl
  | m + 1, l, h, k, hk => by
    cases k with
    | zero =>
      have : l = [] := List.eq_nil_of_length_eq_zero (by omega)
      subst this
      rfl
    | succ k =>
      rw [cutsL, cutsL]
      cases hc : (cutL l).2.2 with
      | true =>
        have := congrArg List.length (cut_yes hc).2
        rw [List.length_append, List.length_cons] at this
        rw [if_pos rfl, if_pos rfl, cuts_ge m _ (by omega) k (by omega)]
      | false => rw [if_neg (by simp), if_neg (by simp)]
theorem cuts_min (n : Nat) (l : List UInt8) (hn : 1 ≤ n) : cutsL (min n (l.length + 1) - 1) l = cutsL (n - 1) l := by
  by_cases h : n ≤ l.length + 1
  · rw [Nat.min_eq_left h]
  · rw [Nat.min_eq_right (by omega)]
    exact cuts_ge _ _ (by omega) _ (by omega)
def cutsS (k : Nat) (s : ByteArray) : List ByteArray := (cutsL k s.data.toList).map fun l => ⟨l.toArray⟩
theorem splitB_cuts (n : Nat) (s : ByteArray) (hn : 1 ≤ n) : Lib.splitB ⟨#[32]⟩ 0 (min n (s.size + 1) - 1) s = cutsS (n - 1) s := by
  have h := Lib.splitB_data ⟨#[32]⟩ 0 (min n (s.size + 1) - 1) s
  have h2 := congrArg (List.map fun l : List UInt8 => (⟨l.toArray⟩ : ByteArray)) h
  rw [List.map_map] at h2
  rw [show (((fun l : List UInt8 => (⟨l.toArray⟩ : ByteArray)) ∘ fun x : ByteArray => x.data.toList)) = id from rfl, List.map_id] at h2
  rw [h2]
  show List.map _ (Lib.splitK [32] 0 _ s.data.toList) = _
  rw [splitK_cuts, show s.size = s.data.toList.length from rfl, cuts_min n _ hn]
  rfl
/-- one byte in place of another -/
theorem replaceK_one {a b : UInt8} : ∀ l : List UInt8, Lib.replaceK [a] [b] (Lib.count l [a]) l = replL a b l
  | [] => by
    rw [Lib.count_miss (by simp [Lib.index])]
    rfl
  | x :: r => by
    have hr : replL a b (x :: r) = (if x = a then b else x) :: replL a b r := rfl
    by_cases h : x = a
    · subst h
      rw [Lib.count_cons_eq, Nat.add_comm, Lib.replaceK_hit _ _ _ _ 0 (index_eq x r), hr, if_pos rfl]
      show [] ++ [b] ++ Lib.replaceK [x] [b] (Lib.count r [x]) ((x :: r).drop (0 + [x].length)) = _
      rw [show (0 + [x].length) = 1 from rfl, List.drop_succ_cons, List.drop_zero, replaceK_one r]
      rfl
    · rw [Lib.count_cons_ne x a r h, hr, if_neg h, ← replaceK_one r]
      by_cases hm : Lib.index r [a] = -1
      · rw [Lib.count_miss hm]
        rfl
      · have hge := Lib.index_ge r [a]
        obtain ⟨j, hj⟩ : ∃ j : Nat, Lib.index r [a] = j := ⟨(Lib.index r [a]).toNat, by omega⟩
        have hc : Lib.count r [a] = Lib.count (r.drop (j + [a].length)) [a] + 1 := by rw [Lib.count_hit (by simp) hj]; omega
        have hix : Lib.index (x :: r) [a] = ((j + 1 : Nat) : Int) := by rw [index_ne x a r h, if_neg (fun e => hm (beq_iff_eq.1 e)), hj]; omega
        rw [hc, Lib.replaceK_hit _ _ _ _ _ hix, Lib.replaceK_hit _ _ _ _ _ hj]
        simp only [List.length_cons, List.length_nil, Nat.zero_add, List.take_succ_cons, List.cons_append]
        rw [show j + 1 + 1 = (j + 1) + 1 from rfl, List.drop_succ_cons]
theorem replace_one {a b : UInt8} (h : a ≠ b) (l : List UInt8) : Lib.replaceAll l [a] [b] = replL a b l := by
  unfold Lib.replaceAll Lib.replace Lib.replaceNum
  rw [if_neg (by simp [h]), if_pos (.inl (by decide)), replaceK_one]
/-- ends, and what is in a list -/
theorem suffix_one (c : UInt8) (l : List UInt8) : Lib.hasSuffix l [c] = (l.getLast? == some c) := by
  unfold Lib.hasSuffix List.isSuffixOf
  rw [← List.head?_reverse]
  cases l.reverse with
  | nil => rfl
  | cons x r =>
    show ((c == x) && true) = (some x == some c)
    rw [Bool.and_true, Bool.eq_iff_iff, beq_iff_eq, beq_iff_eq]
    constructor
    · rintro rfl; rfl
    · intro h; injection h with h; exact h.symm
theorem trim_one (c : UInt8) (l : List UInt8) : Lib.trimSuffix l [c] = if l.getLast? = some c then l.dropLast else l := by
  unfold Lib.trimSuffix
  rw [suffix_one, List.dropLast_eq_take]
  by_cases h : l.getLast? = some c
  · rw [if_pos h, if_pos (by rw [h]; simp)]
    rfl
  · rw [if_neg h, if_neg (by simpa using h)]
theorem trim_back {c : UInt8} {l : List UInt8} (h : l.getLast? = some c) : l.dropLast ++ [c] = l := by
  have hne : l ≠ [] := fun e => by rw [e] at h; cases h
  rw [List.getLast?_eq_some_getLast hne] at h
  injection h with h
  rw [← h]
  exact List.dropLast_concat_getLast hne
theorem set_trim (l : List UInt8) : Lib.trimSuffix (replL 59 10 l) [10] ++ [10] = setT l := by
  rw [trim_one]
  unfold setT
  by_cases h : (replL 59 10 l).getLast? = some 10
  · rw [if_pos h, if_pos h, trim_back h]
  · rw [if_neg h, if_neg h]
theorem indexByte_iff (c : UInt8) : ∀ l : List UInt8, decide (0 ≤ Lib.indexByte l c) = l.contains c
  | [] => rfl
  | x :: r => by
    have ih := indexByte_iff c r
    have hge := Lib.indexByte_ge r c
    rw [List.contains_cons, ← ih, Lib.indexByte]
    by_cases h : (x == c) = true
    · rw [if_pos h]
      have : (c == x) = true := by simp at h ⊢; exact h.symm
      rw [this]; rfl
    · rw [if_neg h]
      have h2 : (c == x) = false := by simp at h ⊢; exact fun e => h e.symm
      rw [h2, Bool.false_or]
      by_cases hm : Lib.indexByte r c = -1
      · rw [hm]; rfl
      · rw [if_neg (by simpa using hm), Bool.eq_iff_iff, decide_eq_true_iff, decide_eq_true_iff]
        omega
/-- the last word of a sale's text, as the program finds it -/
theorem contains_dropLast {t : List UInt8} {c d : UInt8} (h : t.getLast? = some d) (hne : c ≠ d) : t.dropLast.contains c = t.contains c := by
  conv => rhs; rw [← trim_back h]
  rw [List.contains_append, List.contains_cons, List.contains_nil, Bool.or_false]
  have : (c == d) = false := by simpa using hne
  rw [this, Bool.or_false]
def saleB (t : List UInt8) : Bool := Lib.hasSuffix t [10] && (!(Lib.trimSuffix t [10]).isEmpty && (!Lib.hasSuffix (Lib.trimSuffix t [10]) [10] && !(Lib.trimSuffix t [10]).contains 59))
theorem sale_text (t : List UInt8) : lastT 1 t = if saleB t = true then some (replL 10 59 (Lib.trimSuffix t [10])) else none := by
  unfold lastT saleB
  rw [if_pos rfl, trim_one]
  simp only [suffix_one]
  by_cases h : t.getLast? = some 10
  · rw [if_pos h, contains_dropLast h (by decide)]
    congr 1
    rw [Bool.and_eq_true, Bool.and_eq_true, Bool.and_eq_true]
    simp [h]
  · rw [if_neg h]
    have h2 : (t.getLast? == some 10) = false := by simpa using h
    rw [h2, Bool.false_and, if_neg (fun e => h e.1), if_neg (by simp)]
end Go.Proofs.YtaikmgnpfbnjjaaGreatDoor.Ev
