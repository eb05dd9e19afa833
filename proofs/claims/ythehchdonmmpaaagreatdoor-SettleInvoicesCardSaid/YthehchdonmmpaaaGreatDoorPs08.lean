/- The program's fraction.round, Ceil, Sign and amount.Up. Printed by gen_fp1.py. Plain lists: what the lexer computes. Contracts of the lexer's small functions. Printed by gen_lex1.py. Contracts of number, mark, ContainsRune. Contracts of the searches for a byte and a rune in a string. Contract of strings.ContainsRune on the marks, and of the reference's mark. Contract of the reference's mark. Printed by gen_lex5.py. Contract of one. Contract of one: numbers. Contract of one: marks and the rest. Plain: tokens, and what Tokens computes. Contract of one, all cases joined. -/
import Derived.Test.YthehchdonmmpaaaGreatDoorPs06
import Derived.Test.YthehchdonmmpaaaGreatDoorPs07
import Derived.Deep.CutBlock
import Derived.Test.YthehchdonmmpaaaGreatDoorRows
import Derived.Test.YthehchdonmmpaaaGreatDoorPs00
import Derived.Laws.Externs
import Derived.Laws.Runes
import Derived.Lib.Bytealg
import Derived.Laws.Rows
namespace Go.Proofs.YthehchdonmmpaaaGreatDoor
open Go.ChangeShapes Go.WideShapes Go.ChangeAt Go.RowKit
set_option linter.unusedVariables false
set_option linter.unusedSimpArgs false
namespace Fr
theorem ndiv_any (a b : List Nat) (va vb : Value) (w : World) (hla : a.length ≤ 50000) (hlb : b.length ≤ 50000) (hda : Dg a) (hdb : Dg b) (hb0 : nat b ≠ 0) (ha : NS w va a) (hb : NS w vb b) : Calls Tryz.prog 89 #[va, vb] w (DivPost (nat a) (nat b) w) := by
  by_cases h1 : nat a < nat b
  · exact ndiv_less a b va vb w hla hlb hda hdb hb0 ha hb h1
  · by_cases h2 : nat b < B
    · exact ndiv_small a b va vb w hla hlb hda hdb hb0 ha hb (by omega) h2
    · exact ndiv_long a b va vb w hla hlb hda hdb hb0 ha hb (by omega) (by omega)
/-- a quotient, rounded up -/
def ceilN (n d : Nat) : Nat := n / d + if n % d = 0 then 0 else 1
/-- what a function that makes a number and says whether answers -/
def IntPost (v : Int) (b : Bool) (w : World) (e : Ending) (w' : World) : Prop := e = .returned (.tuple #[.int .i64 v, .bool b]) ∧ Below w.heap.size w w'
def CeilPost (n d : Nat) (w : World) (e : Ending) (w' : World) : Prop := ∃ v b, IntPost v b w e w' ∧ (ceilN n d < 9223372036854775808 → v = ((ceilN n d : Nat) : Int) ∧ b = true) ∧ (9223372036854775808 ≤ ceilN n d → v = 0 ∧ b = false)
def SomePost (w : World) (e : Ending) (w' : World) : Prop := ∃ v b, IntPost v b w e w'
theorem nuint_any (n : Nat) (v : Value) (w : World) (hl : (digs n).length ≤ 100000) (h : NS w v (digs n)) : ∃ (u : Nat) (b : Bool), (u < B * B ∧ (n < B * B → u = n ∧ b = true) ∧ (B * B ≤ n → b = false)) ∧ Calls Tryz.prog 103 #[v] w fun e w' => e = .returned (.tuple #[.int .u64 (u : Int), .bool b]) ∧ Below w.heap.size w w' := by
  by_cases hn : n < B * B
  · refine ⟨n, true, ⟨hn, fun _ => ⟨rfl, rfl⟩, fun h => by omega⟩, ?_⟩
    have := nuint_yes (digs n) v w hl (Dg.digs n) h (by rw [nat_digs]; exact hn)
    rwa [nat_digs] at this
  · refine ⟨0, false, ⟨by decide, fun h => absurd h hn, fun _ => rfl⟩, ?_⟩
    have := nuint_no (digs n) v w hl (Dg.digs n) h (by rw [nat_digs]; omega)
    exact this.mono fun _ _ ⟨he, hw⟩ => ⟨he, by subst hw; exact Below.refl _ _⟩
theorem digs_pos_len {n : Nat} (h : n ≠ 0) : 0 < (digs n).length := by
  rcases Nat.eq_zero_or_pos (digs n).length with h1 | h1
  · exact absurd (digs_zero_of h1) h
  · exact h1
set_option maxHeartbeats 2000000 in
set_option maxRecDepth 100000 in
theorem nround_pos (A1 A2 : Option Addr) (c1 c2 n d : Nat) (w : World) (hln : (digs n).length ≤ 40000) (hld : (digs d).length ≤ 40000) (hd0 : d ≠ 0) (hn : NS w (.slice A1 (digs n).length c1) (digs n)) (hd : NS w (.slice A2 (digs d).length c2) (digs d)) : Calls Tryz.prog 90 #[.agg #[.bool false, .slice A1 (digs n).length c1, .slice A2 (digs d).length c2], .bool true] w (CeilPost n d w) := by
  have hd1 := digs_pos_len hd0
  have HD := Lib.hid hd
  have HN := Lib.hid hn
  have HD0 := Lib.hid hd0
  have HLN := Lib.hid hln
  have HLD := Lib.hid hld
  have K0 : Hid (Blk (w.alloc (.cells #[.bool false, .slice A1 (digs n).length c1, .slice A2 (digs d).length c2] 47)) w.heap.size 47 #[.bool false, .slice A1 (digs n).length c1, .slice A2 (digs d).length c2]) := Blk.new w _ _
  have B0 : Hid (Below w.heap.size w (w.alloc (.cells #[.bool false, .slice A1 (digs n).length c1, .slice A2 (digs d).length c2] 47))) := below_new w _
  clear hn hd hd0 hln hld
  go_enter Tryz.func90, Tryz.ntmps90
  go_upto_region 1 with fail
  generalize w.alloc (.cells #[.bool false, .slice A1 (digs n).length c1, .slice A2 (digs d).length c2] 47) = w1 at *
  have k1 := K0.out.c3
  have CD := ndiv_any (digs n) (digs d) _ _ w1 (by have := HLN.out; omega) (by have := HLD.out; omega) (Dg.digs _) (Dg.digs _) (by rw [nat_digs]; exact HD0.out) (HN.out.keep B0.out) (HD.out.keep B0.out)
  unfold DivPost at CD
  rw [nat_digs, nat_digs] at CD
  have CD := Lib.hid CD
  go_wp2_with fail
  refine CD.out.mono ?_
  rintro e w2 ⟨vq, vr, rfl, s1, s2, b2⟩
  have B2 := Lib.hid (chain0 B0.out b2)
  have K2 := Lib.hid (K0.out.below' b2)
  have Q2 := Lib.hid s1
  obtain ⟨A4, c4, rfl, _⟩ := ns_cases s1
  obtain ⟨A5, c5, rfl, _⟩ := ns_cases s2
  have HQL : Hid ((digs (n / d)).length ≤ 40000) := Nat.le_trans (digs_len_mono (Nat.div_le_self n d)) HLN.out
  clear s1 s2 b2 k1
  have k2 := K2.out.c3
  by_cases hr : n % d = 0
  · have hce : ceilN n d = n / d := by unfold ceilN; rw [if_pos hr, Nat.add_zero]
    have HCE := Lib.hid hce
    have hl0 : (digs (n % d)).length = 0 := by rw [hr]; rfl
    have g1 : decide ((0 : Int) < ((digs (n % d)).length : Int)) = false := decide_eq_false (by omega)
    have g2 : decide (0 < (digs (n % d)).length) = false := decide_eq_false (by omega)
    obtain ⟨u, b, hu, CU⟩ := nuint_any (n / d) _ w2 (by have := HQL.out; omega) Q2.out
    have CU := Lib.hid CU
    clear hr hce hl0
    generalize n / d = q at *
    by_cases hb : q < B * B
    · obtain ⟨rfl, rfl⟩ := hu.2.1 hb
      by_cases hlt : u < 9223372036854775808
      · have HLT := Lib.hid hlt
        have t1 : decide ((u : Int) < 9223372036854775808) = true := decide_eq_true (by omega)
        have t2 : IntKind.i64.wrap (u : Int) = (u : Int) := IntWalk.i64_in _ (by omega)
        clear hu hb hlt
        go_wp2_with fail
        refine CU.out.mono ?_
        rintro e w5 ⟨rfl, b5⟩
        have B5 := Lib.hid (chain0 B2.out b5)
        have k5 := (K2.out.below' b5).c3
        clear b5
        go_wp2_with fail
        go_ret2
        exact ⟨_, _, ⟨rfl, B5.out⟩, fun _ => ⟨by rw [HCE.out], rfl⟩, fun h => absurd HLT.out (by rw [HCE.out] at h; omega)⟩
      · have HLT := Lib.hid hlt
        have t1 : decide ((u : Int) < 9223372036854775808) = false := decide_eq_false (by omega)
        clear hu hb hlt
        go_wp2_with fail
        refine CU.out.mono ?_
        rintro e w5 ⟨rfl, b5⟩
        have B5 := Lib.hid (chain0 B2.out b5)
        have k5 := (K2.out.below' b5).c3
        clear b5
        go_wp2_with fail
        go_ret2
        exact ⟨_, _, ⟨rfl, B5.out⟩, fun h => absurd (by rw [HCE.out] at h; exact h) HLT.out, fun _ => ⟨rfl, rfl⟩⟩
    · obtain rfl := hu.2.2 (by omega)
      have HLT : Hid (9223372036854775808 ≤ q) := by show _ ≤ _; rw [BB_eq] at hb; omega
      clear hu hb
      go_wp2_with fail
      refine CU.out.mono ?_
      rintro e w5 ⟨rfl, b5⟩
      have B5 := Lib.hid (chain0 B2.out b5)
      clear b5
      go_wp2_with fail
      go_ret2
      exact ⟨_, _, ⟨rfl, B5.out⟩, fun h => absurd HLT.out (by rw [HCE.out] at h; omega), fun _ => ⟨rfl, rfl⟩⟩
  · have hce : ceilN n d = n / d + 1 := by unfold ceilN; rw [if_neg hr]
    have HCE := Lib.hid hce
    have hl0 := digs_pos_len hr
    have g1 : decide ((0 : Int) < ((digs (n % d)).length : Int)) = true := decide_eq_true (by omega)
    have g2 : decide (0 < (digs (n % d)).length) = true := decide_eq_true (by omega)
    have C1 := Lib.hid (nfromUint_any 1 w2 (by decide))
    clear hr hce hl0
    generalize n / d = q at *
    go_wp2_with fail
    refine C1.out.mono ?_
    rintro e w3 ⟨v3, rfl, s3, b3⟩
    have B3 := Lib.hid (chain0 B2.out b3)
    have K3 := Lib.hid (K2.out.below' b3)
    have CA := nadd_any (digs q) (digs 1) _ _ w3 (by have := HQL.out; omega) (by decide) (Dg.digs _) (Dg.digs _) (Q2.out.keep b3) s3
    rw [nat_digs, nat_digs] at CA
    have CA := Lib.hid CA
    obtain ⟨A6, c6, rfl, _⟩ := ns_cases s3
    clear s3 b3 k2
    go_wp2_with fail
    refine CA.out.mono ?_
    rintro e w4 ⟨v4, rfl, s4, b4⟩
    have B4 := Lib.hid (chain0 B3.out b4)
    have K4 := Lib.hid (K3.out.below' b4)
    have HL4 : Hid ((digs (q + 1)).length ≤ 40001) := digs_add_len HQL.out (by decide)
    obtain ⟨u, b, hu, CU⟩ := nuint_any (q + 1) _ w4 (by have := HL4.out; omega) s4
    have CU := Lib.hid CU
    obtain ⟨A7, c7, rfl, _⟩ := ns_cases s4
    clear s4 b4
    have k2 := K4.out.c3
    generalize q + 1 = q at *
    by_cases hb : q < B * B
    · obtain ⟨rfl, rfl⟩ := hu.2.1 hb
      by_cases hlt : u < 9223372036854775808
      · have HLT := Lib.hid hlt
        have t1 : decide ((u : Int) < 9223372036854775808) = true := decide_eq_true (by omega)
        have t2 : IntKind.i64.wrap (u : Int) = (u : Int) := IntWalk.i64_in _ (by omega)
        clear hu hb hlt
        go_wp2_with fail
        refine CU.out.mono ?_
        rintro e w5 ⟨rfl, b5⟩
        have B5 := Lib.hid (chain0 B4.out b5)
        have k5 := (K4.out.below' b5).c3
        clear b5
        go_wp2_with fail
        go_ret2
        exact ⟨_, _, ⟨rfl, B5.out⟩, fun _ => ⟨by rw [HCE.out], rfl⟩, fun h => absurd HLT.out (by rw [HCE.out] at h; omega)⟩
      · have HLT := Lib.hid hlt
        have t1 : decide ((u : Int) < 9223372036854775808) = false := decide_eq_false (by omega)
        clear hu hb hlt
        go_wp2_with fail
        refine CU.out.mono ?_
        rintro e w5 ⟨rfl, b5⟩
        have B5 := Lib.hid (chain0 B4.out b5)
        have k5 := (K4.out.below' b5).c3
        clear b5
        go_wp2_with fail
        go_ret2
        exact ⟨_, _, ⟨rfl, B5.out⟩, fun h => absurd (by rw [HCE.out] at h; exact h) HLT.out, fun _ => ⟨rfl, rfl⟩⟩
    · obtain rfl := hu.2.2 (by omega)
      have HLT : Hid (9223372036854775808 ≤ q) := by show _ ≤ _; rw [BB_eq] at hb; omega
      clear hu hb
      go_wp2_with fail
      refine CU.out.mono ?_
      rintro e w5 ⟨rfl, b5⟩
      have B5 := Lib.hid (chain0 B4.out b5)
      clear b5
      go_wp2_with fail
      go_ret2
      exact ⟨_, _, ⟨rfl, B5.out⟩, fun h => absurd HLT.out (by rw [HCE.out] at h; omega), fun _ => ⟨rfl, rfl⟩⟩
set_option maxHeartbeats 2000000 in
set_option maxRecDepth 100000 in
theorem nround_neg (A1 A2 : Option Addr) (c1 c2 n d : Nat) (w : World) (hln : (digs n).length ≤ 40000) (hld : (digs d).length ≤ 40000) (hd0 : d ≠ 0) (hn : NS w (.slice A1 (digs n).length c1) (digs n)) (hd : NS w (.slice A2 (digs d).length c2) (digs d)) : Calls Tryz.prog 90 #[.agg #[.bool true, .slice A1 (digs n).length c1, .slice A2 (digs d).length c2], .bool true] w (SomePost w) := by
  have hd1 := digs_pos_len hd0
  have HD := Lib.hid hd
  have HN := Lib.hid hn
  have HD0 := Lib.hid hd0
  have HLN := Lib.hid hln
  have HLD := Lib.hid hld
  have K0 : Hid (Blk (w.alloc (.cells #[.bool true, .slice A1 (digs n).length c1, .slice A2 (digs d).length c2] 47)) w.heap.size 47 #[.bool true, .slice A1 (digs n).length c1, .slice A2 (digs d).length c2]) := Blk.new w _ _
  have B0 : Hid (Below w.heap.size w (w.alloc (.cells #[.bool true, .slice A1 (digs n).length c1, .slice A2 (digs d).length c2] 47))) := below_new w _
  clear hn hd hd0 hln hld
  go_enter Tryz.func90, Tryz.ntmps90
  go_upto_region 1 with fail
  generalize w.alloc (.cells #[.bool true, .slice A1 (digs n).length c1, .slice A2 (digs d).length c2] 47) = w1 at *
  have k1 := K0.out.c3
  have CD := ndiv_any (digs n) (digs d) _ _ w1 (by have := HLN.out; omega) (by have := HLD.out; omega) (Dg.digs _) (Dg.digs _) (by rw [nat_digs]; exact HD0.out) (HN.out.keep B0.out) (HD.out.keep B0.out)
  unfold DivPost at CD
  rw [nat_digs, nat_digs] at CD
  have CD := Lib.hid CD
  go_wp2_with fail
  refine CD.out.mono ?_
  rintro e w2 ⟨vq, vr, rfl, s1, s2, b2⟩
  have B2 := Lib.hid (chain0 B0.out b2)
  have K2 := Lib.hid (K0.out.below' b2)
  have Q2 := Lib.hid s1
  obtain ⟨A4, c4, rfl, _⟩ := ns_cases s1
  obtain ⟨A5, c5, rfl, _⟩ := ns_cases s2
  have HQL : Hid ((digs (n / d)).length ≤ 40000) := Nat.le_trans (digs_len_mono (Nat.div_le_self n d)) HLN.out
  clear s1 s2 b2 k1
  have k2 := K2.out.c3
  obtain ⟨rb, hrb⟩ : ∃ rb, rb = decide ((0 : Int) < ((digs (n % d)).length : Int)) := ⟨_, rfl⟩
  have g1 : decide ((0 : Int) < ((digs (n % d)).length : Int)) = rb := hrb.symm
  have g2 : decide (0 < (digs (n % d)).length) = rb := by rw [hrb, decide_eq_decide]; omega
  obtain ⟨u, b, hu, CU⟩ := nuint_any (n / d) _ w2 (by have := HQL.out; omega) Q2.out
  have CU := Lib.hid CU
  have hu2 := hu.1
  rw [BB_eq] at hu2
  have HU := Lib.hid hu2
  clear hrb hu hu2
  generalize n / d = q at *
  cases b
  all_goals cases rb
  all_goals
    go_wp2_with fail
    refine CU.out.mono ?_
    rintro e w5 ⟨rfl, b5⟩
    have B5 := Lib.hid (chain0 B2.out b5)
    have k5 := (K2.out.below' b5).c3
    clear b5
    by_cases hlt : u ≤ 9223372036854775808
    · have t1 : decide ((u : Int) ≤ 9223372036854775808) = true := decide_eq_true (by omega)
      clear hlt
      go_wp2_with fail
      go_ret2
      exact ⟨_, _, rfl, B5.out⟩
    · have t1 : decide ((u : Int) ≤ 9223372036854775808) = false := decide_eq_false (by omega)
      clear hlt
      go_wp2_with fail
      go_ret2
      exact ⟨_, _, rfl, B5.out⟩
end Fr
end Go.Proofs.YthehchdonmmpaaaGreatDoor
namespace Go.Proofs.YthehchdonmmpaaaGreatDoor
namespace Lex
def isLet (b : UInt8) : Bool := decide (97 ≤ b.toNat) && decide (b.toNat ≤ 122)
def isDig (b : UInt8) : Bool := decide (48 ≤ b.toNat) && decide (b.toNat ≤ 57)
def isInn (b : UInt8) : Bool := isLet b || (isDig b || decide (b.toNat = 95))
def isMark (b : UInt8) : Bool := decide (b.toNat ∈ [123, 125, 40, 41, 44, 58, 64, 43, 45, 61])
/-- how many bytes at the beginning belong together -/
def span (p : UInt8 → Bool) : List UInt8 → Nat
  | [] => 0
  | b :: l => if p b then span p l + 1 else 0
theorem span_le (p : UInt8 → Bool) : ∀ l, span p l ≤ l.length
  | [] => Nat.le_refl _
  | b :: l => by
    unfold span
    split
    · have := span_le p l; simp; omega
    · simp
theorem span_cons {p : UInt8 → Bool} {b : UInt8} {l : List UInt8} (h : p b = true) : span p (b :: l) = span p l + 1 := by simp [span, h]
theorem span_stop {p : UInt8 → Bool} {b : UInt8} {l : List UInt8} (h : p b = false) : span p (b :: l) = 0 := by simp [span, h]
/-- the value of digits -/
def val (l : List UInt8) : Nat := l.foldl (fun v b => v * 10 + (b.toNat - 48)) 0
theorem val_snoc (l : List UInt8) (b : UInt8) : val (l ++ [b]) = val l * 10 + (b.toNat - 48) := by simp [val]
/-- a token without its text: kind, length, value; or an error -/
structure Piece where
  kind : Nat
  len : Nat
  value : Nat
def one : List UInt8 → Except Int Piece
  | [] => .error 2
  | b :: l =>
    if isLet b then (if 12 < span isInn l + 1 then .error 3 else .ok ⟨1, span isInn l + 1, 0⟩)
    else if isDig b then
      (if 1 < span isDig l + 1 ∧ b.toNat = 48 then .error 2
       else if 9 < span isDig l + 1 then .error 4
       else .ok ⟨2, span isDig l + 1, val ((b :: l).take (span isDig l + 1))⟩)
    else if isMark b then .ok ⟨3, 1, 0⟩
    else .error 2
theorem one_len {l : List UInt8} {p : Piece} (h : one l = .ok p) : 1 ≤ p.len ∧ p.len ≤ l.length := by
  cases l with
  | nil => cases h
  | cons b l =>
    have h1 := span_le isInn l
    have h2 := span_le isDig l
    simp only [one] at h
    repeat' split at h
    all_goals first
      | (cases h; done)
      | (injection h with h; subst h; simp; omega)
      | (injection h with h; subst h; simp)
end Lex
end Go.Proofs.YthehchdonmmpaaaGreatDoor
namespace Go.Proofs.YthehchdonmmpaaaGreatDoor
open Go.ChangeShapes Go.WideShapes Go.ChangeAt Go.RowKit
namespace Lex

theorem letter_any (b : UInt8) (w : World) : Calls Tryz.prog 56 #[.int .i32 (b.toNat : Int)] w fun e w' => e = .returned (.bool (isLet b)) ∧ w = w' := by
  have hb := b.toNat_lt
  unfold isLet
  by_cases h1 : 97 ≤ b.toNat
  · have c1 : decide ((97 : Int) ≤ (b.toNat : Int)) = true := by simp; omega
    by_cases h2 : b.toNat ≤ 122
    · have c2 : decide ((b.toNat : Int) ≤ 122) = true := by simp; omega
      go_enter Tryz.func56, Tryz.ntmps56
      go_wp2
      go_ret
      exact ⟨by simp [h1, h2], rfl⟩
    · have c2 : decide ((b.toNat : Int) ≤ 122) = false := by simp; omega
      go_enter Tryz.func56, Tryz.ntmps56
      go_wp2
      go_ret
      exact ⟨by simp [h1, h2], rfl⟩
  · have c1 : decide ((97 : Int) ≤ (b.toNat : Int)) = false := by simp; omega
    go_enter Tryz.func56, Tryz.ntmps56
    go_wp2
    go_ret
    exact ⟨by simp [h1], rfl⟩

theorem digit_any (b : UInt8) (w : World) : Calls Tryz.prog 86 #[.int .i32 (b.toNat : Int)] w fun e w' => e = .returned (.bool (isDig b)) ∧ w = w' := by
  have hb := b.toNat_lt
  unfold isDig
  by_cases h1 : 48 ≤ b.toNat
  · have c1 : decide ((48 : Int) ≤ (b.toNat : Int)) = true := by simp; omega
    by_cases h2 : b.toNat ≤ 57
    · have c2 : decide ((b.toNat : Int) ≤ 57) = true := by simp; omega
      go_enter Tryz.func86, Tryz.ntmps86
      go_wp2
      go_ret
      exact ⟨by simp [h1, h2], rfl⟩
    · have c2 : decide ((b.toNat : Int) ≤ 57) = false := by simp; omega
      go_enter Tryz.func86, Tryz.ntmps86
      go_wp2
      go_ret
      exact ⟨by simp [h1, h2], rfl⟩
  · have c1 : decide ((48 : Int) ≤ (b.toNat : Int)) = false := by simp; omega
    go_enter Tryz.func86, Tryz.ntmps86
    go_wp2
    go_ret
    exact ⟨by simp [h1], rfl⟩

theorem rletter_any (b : UInt8) (w : World) : Calls Tryz.prog 91 #[.int .u8 (b.toNat : Int)] w fun e w' => e = .returned (.bool (isLet b)) ∧ w = w' := by
  have hb := b.toNat_lt
  unfold isLet
  by_cases h1 : 97 ≤ b.toNat
  · have c1 : decide ((97 : Int) ≤ (b.toNat : Int)) = true := by simp; omega
    by_cases h2 : b.toNat ≤ 122
    · have c2 : decide ((b.toNat : Int) ≤ 122) = true := by simp; omega
      go_enter Tryz.func91, Tryz.ntmps91
      go_wp2
      go_ret
      exact ⟨by simp [h1, h2], rfl⟩
    · have c2 : decide ((b.toNat : Int) ≤ 122) = false := by simp; omega
      go_enter Tryz.func91, Tryz.ntmps91
      go_wp2
      go_ret
      exact ⟨by simp [h1, h2], rfl⟩
  · have c1 : decide ((97 : Int) ≤ (b.toNat : Int)) = false := by simp; omega
    go_enter Tryz.func91, Tryz.ntmps91
    go_wp2
    go_ret
    exact ⟨by simp [h1], rfl⟩

theorem rdigit_any (b : UInt8) (w : World) : Calls Tryz.prog 104 #[.int .u8 (b.toNat : Int)] w fun e w' => e = .returned (.bool (isDig b)) ∧ w = w' := by
  have hb := b.toNat_lt
  unfold isDig
  by_cases h1 : 48 ≤ b.toNat
  · have c1 : decide ((48 : Int) ≤ (b.toNat : Int)) = true := by simp; omega
    by_cases h2 : b.toNat ≤ 57
    · have c2 : decide ((b.toNat : Int) ≤ 57) = true := by simp; omega
      go_enter Tryz.func104, Tryz.ntmps104
      go_wp2
      go_ret
      exact ⟨by simp [h1, h2], rfl⟩
    · have c2 : decide ((b.toNat : Int) ≤ 57) = false := by simp; omega
      go_enter Tryz.func104, Tryz.ntmps104
      go_wp2
      go_ret
      exact ⟨by simp [h1, h2], rfl⟩
  · have c1 : decide ((48 : Int) ≤ (b.toNat : Int)) = false := by simp; omega
    go_enter Tryz.func104, Tryz.ntmps104
    go_wp2
    go_ret
    exact ⟨by simp [h1], rfl⟩

theorem inner_any (b : UInt8) (w : World) : Calls Tryz.prog 58 #[.int .i32 (b.toNat : Int)] w fun e w' => e = .returned (.bool (isInn b)) ∧ w = w' := by
  have hb := b.toNat_lt
  have CL := Lib.hid (letter_any b)
  have CD := Lib.hid (digit_any b)
  unfold isInn
  cases hl : isLet b with
  | true =>
    go_enter Tryz.func58, Tryz.ntmps58
    go_wp2_with (go_at_call 56; refine (CL.out _).mono ?_; rintro e w' ⟨rfl, rfl⟩; rw [hl])
    go_ret
    exact ⟨rfl, rfl⟩
  | false =>
    cases hd : isDig b with
    | true =>
      go_enter Tryz.func58, Tryz.ntmps58
      go_wp2_with (first | (go_at_call 56; refine (CL.out _).mono ?_; rintro e w' ⟨rfl, rfl⟩; rw [hl]) | (go_at_call 86; refine (CD.out _).mono ?_; rintro e w' ⟨rfl, rfl⟩; rw [hd]))
      go_ret
      exact ⟨rfl, rfl⟩
    | false =>
      have c1 : ((b.toNat : Int) == 95) = decide (b.toNat = 95) := by
        by_cases h : b.toNat = 95
        · simp [h]
        · simp [h]; omega
      go_enter Tryz.func58, Tryz.ntmps58
      go_wp2_with (first | (go_at_call 56; refine (CL.out _).mono ?_; rintro e w' ⟨rfl, rfl⟩; rw [hl]) | (go_at_call 86; refine (CD.out _).mono ?_; rintro e w' ⟨rfl, rfl⟩; rw [hd]))
      go_ret
      exact ⟨by simp, rfl⟩

theorem wrap32_byte (b : UInt8) : wrap32 (b.toNat : Int) = (b.toNat : Int) := by
  have := b.toNat_lt
  unfold wrap32
  omega
/-- the bytes of s from at on that belong together -/
def runLen (p : UInt8 → Bool) (s : ByteArray) (at0 : Nat) : Nat := span p (s.data.toList.drop at0)
theorem runLen_le (p : UInt8 → Bool) (s : ByteArray) (at0 : Nat) (h : at0 ≤ s.size) : at0 + runLen p s at0 ≤ s.size := by
  have := span_le p (s.data.toList.drop at0)
  unfold runLen
  rw [List.length_drop] at this
  have h2 : s.data.toList.length = s.size := rfl
  omega
theorem drop_cons (s : ByteArray) (k : Nat) (h : k < s.size) : s.data.toList.drop k = s[k] :: s.data.toList.drop (k + 1) := by
  rw [List.drop_eq_getElem_cons (by exact h)]; rfl
theorem runLen_yes (p : UInt8 → Bool) (s : ByteArray) (k : Nat) (h : k < s.size) (hp : p s[k] = true) : runLen p s k = runLen p s (k + 1) + 1 := by
  unfold runLen; rw [drop_cons s k h, span_cons hp]
theorem runLen_no (p : UInt8 → Bool) (s : ByteArray) (k : Nat) (h : k < s.size) (hp : p s[k] = false) : runLen p s k = 0 := by
  unfold runLen; rw [drop_cons s k h, span_stop hp]
theorem runLen_end (p : UInt8 → Bool) (s : ByteArray) (k : Nat) (h : s.size ≤ k) : runLen p s k = 0 := by
  unfold runLen; rw [List.drop_eq_nil_of_le (by exact h)]; rfl


theorem run_inner (s : ByteArray) (a : Nat) (w : World) (hs : s.size ≤ maxLen) (ha : a ≤ s.size) :
    Calls Tryz.prog 57 #[.string s, .int .i64 (a : Int), .func (.func 58) #[] #[]] w fun e w' => e = .returned (.string (s.extract a (a + runLen isInn s a))) ∧ w = w' := by
  unfold maxLen at hs
  have CT := Lib.hid inner_any
  have WB := Lib.hid wrap32_byte
  have RY := Lib.hid (runLen_yes isInn s)
  have RN := Lib.hid (runLen_no isInn s)
  have RE := Lib.hid (runLen_end isInn s)
  go_enter Tryz.func57, Tryz.ntmps57
  go_wp2_with fail
  go_loop [7] (fun i => ∃ k : Nat, a ≤ k ∧ k ≤ s.size ∧ i = .int .i64 (k : Int) ∧ a + runLen isInn s a = k + runLen isInn s k) (fun i => s.size - (intOf i).toNat)
  case atStart => exact ⟨a, by omega, by omega, rfl, rfl⟩
  case round =>
    obtain ⟨k, hak, hk, rfl, hr⟩ := hrel
    have HR := Lib.hid hr
    clear hr
    by_cases hlt : k < s.size
    · have hd : decide ((k : Int) < (s.size : Int)) = true := by simp; omega
      cases hp : isInn s[k] with
      | true =>
        go_wp2_with (go_at_call 58; rw [WB.out]; refine (CT.out _ _).mono ?_; rintro e w' ⟨rfl, rfl⟩; rw [hp])
        go_round
        case rel => exact ⟨k + 1, by omega, by omega, by go_num, by rw [HR.out, RY.out k hlt hp]; omega⟩
        case measure => simp [intOf]; omega
      | false =>
        go_wp2_with (go_at_call 58; rw [WB.out]; refine (CT.out _ _).mono ?_; rintro e w' ⟨rfl, rfl⟩; rw [hp])
        go_ret
        have h := RN.out k hlt hp
        have h2 := HR.out
        rw [h] at h2
        exact ⟨by rw [h2]; simp, rfl⟩
    · have hd : decide ((k : Int) < (s.size : Int)) = false := by simp; omega
      go_wp2_with fail
      go_ret
      have h := RE.out k (by omega)
      have h2 := HR.out
      rw [h] at h2
      exact ⟨by rw [h2]; simp, rfl⟩

theorem run_digit (s : ByteArray) (a : Nat) (w : World) (hs : s.size ≤ maxLen) (ha : a ≤ s.size) :
    Calls Tryz.prog 57 #[.string s, .int .i64 (a : Int), .func (.func 86) #[] #[]] w fun e w' => e = .returned (.string (s.extract a (a + runLen isDig s a))) ∧ w = w' := by
  unfold maxLen at hs
  have CT := Lib.hid digit_any
  have WB := Lib.hid wrap32_byte
  have RY := Lib.hid (runLen_yes isDig s)
  have RN := Lib.hid (runLen_no isDig s)
  have RE := Lib.hid (runLen_end isDig s)
  go_enter Tryz.func57, Tryz.ntmps57
  go_wp2_with fail
  go_loop [7] (fun i => ∃ k : Nat, a ≤ k ∧ k ≤ s.size ∧ i = .int .i64 (k : Int) ∧ a + runLen isDig s a = k + runLen isDig s k) (fun i => s.size - (intOf i).toNat)
  case atStart => exact ⟨a, by omega, by omega, rfl, rfl⟩
  case round =>
    obtain ⟨k, hak, hk, rfl, hr⟩ := hrel
    have HR := Lib.hid hr
    clear hr
    by_cases hlt : k < s.size
    · have hd : decide ((k : Int) < (s.size : Int)) = true := by simp; omega
      cases hp : isDig s[k] with
      | true =>
        go_wp2_with (go_at_call 86; rw [WB.out]; refine (CT.out _ _).mono ?_; rintro e w' ⟨rfl, rfl⟩; rw [hp])
        go_round
        case rel => exact ⟨k + 1, by omega, by omega, by go_num, by rw [HR.out, RY.out k hlt hp]; omega⟩
        case measure => simp [intOf]; omega
      | false =>
        go_wp2_with (go_at_call 86; rw [WB.out]; refine (CT.out _ _).mono ?_; rintro e w' ⟨rfl, rfl⟩; rw [hp])
        go_ret
        have h := RN.out k hlt hp
        have h2 := HR.out
        rw [h] at h2
        exact ⟨by rw [h2]; simp, rfl⟩
    · have hd : decide ((k : Int) < (s.size : Int)) = false := by simp; omega
      go_wp2_with fail
      go_ret
      have h := RE.out k (by omega)
      have h2 := HR.out
      rw [h] at h2
      exact ⟨by rw [h2]; simp, rfl⟩

end Lex
end Go.Proofs.YthehchdonmmpaaaGreatDoor
namespace Go.Proofs.YthehchdonmmpaaaGreatDoor
open Go.ChangeShapes Go.WideShapes Go.ChangeAt Go.RowKit
namespace Lex

/-- the value of the first k bytes -/
def valT (t : ByteArray) (k : Nat) : Nat := val (t.data.toList.take k)
theorem valT_snoc (t : ByteArray) (k : Nat) (h : k < t.size) : valT t (k + 1) = valT t k * 10 + (t[k].toNat - 48) := by
  unfold valT
  rw [List.take_add_one, List.getElem?_eq_getElem (by exact h)]
  exact val_snoc _ _
theorem dig_le {b : UInt8} (h : isDig b = true) : 48 ≤ b.toNat ∧ b.toNat ≤ 57 := by
  unfold isDig at h
  simpa using h
theorem valT_lt (t : ByteArray) (hd : ∀ k (h : k < t.size), isDig t[k] = true) : ∀ k, k ≤ t.size → valT t k + 1 ≤ 10 ^ k
  | 0, _ => by simp [valT, val]
  | k + 1, h => by
    have h1 := valT_lt t hd k (by omega)
    rw [valT_snoc t k (by omega), Nat.pow_succ]
    have h2 := dig_le (hd k (by omega))
    omega
theorem valT_small (t : ByteArray) (hd : ∀ k (h : k < t.size), isDig t[k] = true) (hs : t.size ≤ 9) (k : Nat) (hk : k ≤ t.size) : valT t k < 1000000000 := by
  have h1 := valT_lt t hd k hk
  have h2 : 10 ^ k ≤ 10 ^ 9 := Nat.pow_le_pow_right (by omega) (by omega)
  omega
theorem valT_end (t : ByteArray) (k : Nat) (h : t.size ≤ k) : valT t k = val t.data.toList := by
  unfold valT
  rw [List.take_of_length_le (by exact h)]

end Lex
end Go.Proofs.YthehchdonmmpaaaGreatDoor
namespace Go.Proofs.YthehchdonmmpaaaGreatDoor
open Go.ChangeShapes Go.WideShapes Go.ChangeAt Go.RowKit
namespace Lex

theorem drewN_below (w : World) (n : Nat) : Below w.heap.size w (w.drewN n) := ⟨rfl, rfl, rfl, Nat.le_refl _, fun _ _ => rfl⟩
/-- the marks -/
def marks : ByteArray := ⟨#[123, 125, 40, 41, 44, 58, 64, 43, 45, 61]⟩
theorem enc_high (b : UInt8) (h : 128 ≤ b.toNat) : ∃ r : ByteArray, Utf8.encode (b.toNat : Int) = r ∧ r.size = 2 ∧ ∀ h, 128 ≤ (r[1]'h).toNat := by
  have hb := b.toNat_lt
  have hv : Utf8.valid (b.toNat : Int) = true := by rw [validRune_eq]; unfold validRune; simp; omega
  refine ⟨⟨#[UInt8.ofNat (192 + b.toNat / 64), UInt8.ofNat (128 + b.toNat % 64)]⟩, ?_, rfl, fun _ => ?_⟩
  · unfold Utf8.encode
    have h1 : ¬ b.toNat < 128 := by omega
    have h2 : b.toNat < 2048 := by omega
    simp [hv, h1, h2]
  · show 128 ≤ (UInt8.ofNat (128 + b.toNat % 64)).toNat
    simp; omega
theorem marks_none (c : UInt8) (h : 128 ≤ c.toNat) (a e : Nat) : Lib.indexByte (marks.extract a e).data.toList c = -1 := by
  rw [← Lib.firstIdx_eq]
  exact firstIdx_ascii marks a e c (by decide +kernel) h
end Lex
end Go.Proofs.YthehchdonmmpaaaGreatDoor
namespace Go.Proofs.YthehchdonmmpaaaGreatDoor
open Go.ChangeShapes Go.WideShapes Go.ChangeAt Go.RowKit
namespace Lex
theorem marks_low (b : UInt8) (_h : b.toNat < 128) : decide ((0 : Int) ≤ Lib.indexByte marks.data.toList ((b.toNat : Int).toNat.toUInt8)) = isMark b := by
  have e : ((b.toNat : Int).toNat.toUInt8) = b := by simp
  rw [e]
  have key : ∀ n : Fin 256, decide ((0 : Int) ≤ Lib.indexByte marks.data.toList (UInt8.ofNat n.val)) = isMark (UInt8.ofNat n.val) := by decide +kernel
  have := key ⟨b.toNat, b.toNat_lt⟩
  simpa using this
theorem mark_high (b : UInt8) (h : 128 ≤ b.toNat) : isMark b = false := by
  unfold isMark
  simp
  omega
end Lex
end Go.Proofs.YthehchdonmmpaaaGreatDoor
namespace Go.Proofs.YthehchdonmmpaaaGreatDoor
open Go.ChangeShapes Go.WideShapes Go.ChangeAt Go.RowKit
namespace Lex
set_option maxHeartbeats 4000000 in
theorem rmark_any (b : UInt8) (w : World) : Calls Tryz.prog 105 #[.int .u8 (b.toNat : Int)] w fun e w' => e = .returned (.bool (isMark b)) ∧ w = w' := by
  have hb := b.toNat_lt
  by_cases h0 : b.toNat = 123
  · have c0 : ((123 : Int) == (b.toNat : Int)) = true := by simp; omega
    have hm : isMark b = true := by unfold isMark; simp [h0]
    go_enter Tryz.func105, Tryz.ntmps105
    go_wp2_with fail
    refine wp_loop_rounds 1 ?_
    iterate 1 (rw [rounds_succ]; go_wp2_with fail)
    go_ret
    exact ⟨by rw [hm]; rfl, rfl⟩
  have c0 : ((123 : Int) == (b.toNat : Int)) = false := by simp; omega
  have d0 : ((((⟨#[123, 125, 40, 41, 58, 44, 64, 43, 45, 61]⟩ : ByteArray)[0]'(by decide)).toNat : Int) == (b.toNat : Int)) = false := c0
  by_cases h1 : b.toNat = 125
  · have c1 : ((125 : Int) == (b.toNat : Int)) = true := by simp; omega
    have hm : isMark b = true := by unfold isMark; simp [h1]
    go_enter Tryz.func105, Tryz.ntmps105
    go_wp2_with fail
    refine wp_loop_rounds 2 ?_
    iterate 2 (rw [rounds_succ]; go_wp2_with fail)
    go_ret
    exact ⟨by rw [hm]; rfl, rfl⟩
  have c1 : ((125 : Int) == (b.toNat : Int)) = false := by simp; omega
  have d1 : ((((⟨#[123, 125, 40, 41, 58, 44, 64, 43, 45, 61]⟩ : ByteArray)[1]'(by decide)).toNat : Int) == (b.toNat : Int)) = false := c1
  by_cases h2 : b.toNat = 40
  · have c2 : ((40 : Int) == (b.toNat : Int)) = true := by simp; omega
    have hm : isMark b = true := by unfold isMark; simp [h2]
    go_enter Tryz.func105, Tryz.ntmps105
    go_wp2_with fail
    refine wp_loop_rounds 3 ?_
    iterate 3 (rw [rounds_succ]; go_wp2_with fail)
    go_ret
    exact ⟨by rw [hm]; rfl, rfl⟩
  have c2 : ((40 : Int) == (b.toNat : Int)) = false := by simp; omega
  have d2 : ((((⟨#[123, 125, 40, 41, 58, 44, 64, 43, 45, 61]⟩ : ByteArray)[2]'(by decide)).toNat : Int) == (b.toNat : Int)) = false := c2
  by_cases h3 : b.toNat = 41
  · have c3 : ((41 : Int) == (b.toNat : Int)) = true := by simp; omega
    have hm : isMark b = true := by unfold isMark; simp [h3]
    go_enter Tryz.func105, Tryz.ntmps105
    go_wp2_with fail
    refine wp_loop_rounds 4 ?_
    iterate 4 (rw [rounds_succ]; go_wp2_with fail)
    go_ret
    exact ⟨by rw [hm]; rfl, rfl⟩
  have c3 : ((41 : Int) == (b.toNat : Int)) = false := by simp; omega
  have d3 : ((((⟨#[123, 125, 40, 41, 58, 44, 64, 43, 45, 61]⟩ : ByteArray)[3]'(by decide)).toNat : Int) == (b.toNat : Int)) = false := c3
  by_cases h4 : b.toNat = 58
  · have c4 : ((58 : Int) == (b.toNat : Int)) = true := by simp; omega
    have hm : isMark b = true := by unfold isMark; simp [h4]
    go_enter Tryz.func105, Tryz.ntmps105
    go_wp2_with fail
    refine wp_loop_rounds 5 ?_
    iterate 5 (rw [rounds_succ]; go_wp2_with fail)
    go_ret
    exact ⟨by rw [hm]; rfl, rfl⟩
  have c4 : ((58 : Int) == (b.toNat : Int)) = false := by simp; omega
  have d4 : ((((⟨#[123, 125, 40, 41, 58, 44, 64, 43, 45, 61]⟩ : ByteArray)[4]'(by decide)).toNat : Int) == (b.toNat : Int)) = false := c4
  by_cases h5 : b.toNat = 44
  · have c5 : ((44 : Int) == (b.toNat : Int)) = true := by simp; omega
    have hm : isMark b = true := by unfold isMark; simp [h5]
    go_enter Tryz.func105, Tryz.ntmps105
    go_wp2_with fail
    refine wp_loop_rounds 6 ?_
    iterate 6 (rw [rounds_succ]; go_wp2_with fail)
    go_ret
    exact ⟨by rw [hm]; rfl, rfl⟩
  have c5 : ((44 : Int) == (b.toNat : Int)) = false := by simp; omega
  have d5 : ((((⟨#[123, 125, 40, 41, 58, 44, 64, 43, 45, 61]⟩ : ByteArray)[5]'(by decide)).toNat : Int) == (b.toNat : Int)) = false := c5
  by_cases h6 : b.toNat = 64
  · have c6 : ((64 : Int) == (b.toNat : Int)) = true := by simp; omega
    have hm : isMark b = true := by unfold isMark; simp [h6]
    go_enter Tryz.func105, Tryz.ntmps105
    go_wp2_with fail
    refine wp_loop_rounds 7 ?_
    iterate 7 (rw [rounds_succ]; go_wp2_with fail)
    go_ret
    exact ⟨by rw [hm]; rfl, rfl⟩
  have c6 : ((64 : Int) == (b.toNat : Int)) = false := by simp; omega
  have d6 : ((((⟨#[123, 125, 40, 41, 58, 44, 64, 43, 45, 61]⟩ : ByteArray)[6]'(by decide)).toNat : Int) == (b.toNat : Int)) = false := c6
  by_cases h7 : b.toNat = 43
  · have c7 : ((43 : Int) == (b.toNat : Int)) = true := by simp; omega
    have hm : isMark b = true := by unfold isMark; simp [h7]
    go_enter Tryz.func105, Tryz.ntmps105
    go_wp2_with fail
    refine wp_loop_rounds 8 ?_
    iterate 8 (rw [rounds_succ]; go_wp2_with fail)
    go_ret
    exact ⟨by rw [hm]; rfl, rfl⟩
  have c7 : ((43 : Int) == (b.toNat : Int)) = false := by simp; omega
  have d7 : ((((⟨#[123, 125, 40, 41, 58, 44, 64, 43, 45, 61]⟩ : ByteArray)[7]'(by decide)).toNat : Int) == (b.toNat : Int)) = false := c7
  by_cases h8 : b.toNat = 45
  · have c8 : ((45 : Int) == (b.toNat : Int)) = true := by simp; omega
    have hm : isMark b = true := by unfold isMark; simp [h8]
    go_enter Tryz.func105, Tryz.ntmps105
    go_wp2_with fail
    refine wp_loop_rounds 9 ?_
    iterate 9 (rw [rounds_succ]; go_wp2_with fail)
    go_ret
    exact ⟨by rw [hm]; rfl, rfl⟩
  have c8 : ((45 : Int) == (b.toNat : Int)) = false := by simp; omega
  have d8 : ((((⟨#[123, 125, 40, 41, 58, 44, 64, 43, 45, 61]⟩ : ByteArray)[8]'(by decide)).toNat : Int) == (b.toNat : Int)) = false := c8
  by_cases h9 : b.toNat = 61
  · have c9 : ((61 : Int) == (b.toNat : Int)) = true := by simp; omega
    have hm : isMark b = true := by unfold isMark; simp [h9]
    go_enter Tryz.func105, Tryz.ntmps105
    go_wp2_with fail
    refine wp_loop_rounds 10 ?_
    iterate 10 (rw [rounds_succ]; go_wp2_with fail)
    go_ret
    exact ⟨by rw [hm]; rfl, rfl⟩
  have c9 : ((61 : Int) == (b.toNat : Int)) = false := by simp; omega
  have d9 : ((((⟨#[123, 125, 40, 41, 58, 44, 64, 43, 45, 61]⟩ : ByteArray)[9]'(by decide)).toNat : Int) == (b.toNat : Int)) = false := c9
  have hm : isMark b = false := by unfold isMark; simp; omega
  go_enter Tryz.func105, Tryz.ntmps105
  go_wp2_with fail
  refine wp_loop_rounds 11 ?_
  iterate 11 (rw [rounds_succ]; go_wp2_with fail)
  go_ret
  exact ⟨by rw [hm]; rfl, rfl⟩
end Lex
end Go.Proofs.YthehchdonmmpaaaGreatDoor
namespace Go.Proofs.YthehchdonmmpaaaGreatDoor
open Go.ChangeShapes Go.WideShapes Go.ChangeAt Go.RowKit
namespace Lex
theorem results_cell_row_tmp {P : Program} {fn : Func} {p u : Tmp} {ty : TypeId} (h : fn.results = #[.cell p ty, .tmp u]) (tmps : Array Value) (w : World) (g : Nat) (t : TypeId) (cs : Array Value) (fr : Nat × Nat) (d : TypeDesc)
    (hp : tmps.getD p undef = .pointer (some ⟨g, 0, none⟩)) (hg : w.heap[g]? = some (.cells cs t fr))
    (hu : P.underlying ty = some d) (hd : (match d with | .struct _ | .array _ _ => true | _ => false) = true) (hi : (P.info? ty).map (·.size) = some cs.size) {x : Value} (hx : tmps.getD u undef = x) :
    (results fn tmps).run P w = .ok (.tuple #[.agg cs, x]) w := by
  subst hx
  have hp' : tmps[p]?.getD undef = .pointer (some ⟨g, 0, none⟩) := by simpa using hp
  simp [results, h, hp', asAddr, run_loadVar_row w g t ty cs fr d hg hu hd hi]
theorem heap_two (w : World) (o o' : Obj) : ((w.alloc o).alloc o').heap[w.heap.size]? = some o := by
  show ((w.heap.push o).push o')[w.heap.size]? = some o
  rw [Array.getElem?_push]
  simp
end Lex
end Go.Proofs.YthehchdonmmpaaaGreatDoor
namespace Go.Proofs.YthehchdonmmpaaaGreatDoor
open Go.ChangeShapes Go.WideShapes Go.ChangeAt Go.RowKit
namespace Lex
end Lex
end Go.Proofs.YthehchdonmmpaaaGreatDoor
namespace Go.Proofs.YthehchdonmmpaaaGreatDoor
open Go.ChangeShapes Go.WideShapes Go.ChangeAt Go.RowKit
set_option linter.unusedVariables false
set_option linter.unusedSimpArgs false
namespace Lex
end Lex
end Go.Proofs.YthehchdonmmpaaaGreatDoor
namespace Go.Proofs.YthehchdonmmpaaaGreatDoor
open Go.ChangeShapes Go.WideShapes Go.ChangeAt Go.RowKit
namespace Lex
structure Tok where
  kind : Int
  text : ByteArray
  value : Int
  pos : Int
def Tok.none : Tok := ⟨0, ⟨#[]⟩, 0, 0⟩
abbrev Tok.cells (t : Tok) : List Value := [.int .i64 t.kind, .string t.text, .int .i64 t.value, .int .i64 t.pos]
def cellsOf (l : List Tok) : List Value := l.flatMap Tok.cells
theorem cellsOf_snoc (l : List Tok) (t : Tok) : cellsOf (l ++ [t]) = cellsOf l ++ t.cells := by simp [cellsOf]
theorem cellsOf_len (l : List Tok) : (cellsOf l).length = l.length * 4 := by
  unfold cellsOf
  induction l with
  | nil => rfl
  | cons t l ih =>
    rw [List.flatMap_cons, List.length_append, ih, List.length_cons]
    show 4 + _ = _
    rw [List.length_cons]
    omega
theorem cellsOf_at (l : List Tok) (i : Nat) (hi : i < l.length) : (cellsOf l)[i * 4]? = some (.int .i64 l[i].kind) ∧ (cellsOf l)[i * 4 + 1]? = some (.string l[i].text) ∧ (cellsOf l)[i * 4 + 2]? = some (.int .i64 l[i].value) ∧ (cellsOf l)[i * 4 + 3]? = some (.int .i64 l[i].pos) := by
  induction l generalizing i with
  | nil => simp at hi
  | cons t l ih =>
    cases i with
    | zero => simp [cellsOf]
    | succ i =>
      have h := ih i (by simpa using hi)
      have e : ∀ j, (cellsOf (t :: l))[(i + 1) * 4 + j]? = (cellsOf l)[i * 4 + j]? := by
        intro j
        rw [show (i + 1) * 4 + j = 4 + (i * 4 + j) by omega]
        show (t.cells ++ cellsOf l)[4 + (i * 4 + j)]? = _
        rw [List.getElem?_append_right (by simp)]
        simp
      have e0 := e 0
      simp only [Nat.add_zero] at e0
      rw [e0, e 1, e 2, e 3]
      exact h
/-- a row of tokens in memory -/
def TokRow (w : World) (b o : Nat) (L : List Tok) : Prop := ∀ j u, (cellsOf L)[j]? = some u → w.cell? ⟨b, o + j, none⟩ = some u
theorem TokRow.at_ {w : World} {b o : Nat} {L : List Tok} (h : TokRow w b o L) (k : Nat) (hk : k < L.length) :
    w.cell? ⟨b, o + k * 4, none⟩ = some (.int .i64 L[k].kind) ∧ w.cell? ⟨b, o + k * 4 + 1, none⟩ = some (.string L[k].text) ∧ w.cell? ⟨b, o + k * 4 + 2, none⟩ = some (.int .i64 L[k].value) ∧ w.cell? ⟨b, o + k * 4 + 3, none⟩ = some (.int .i64 L[k].pos) := by
  obtain ⟨e0, e1, e2, e3⟩ := cellsOf_at L k hk
  exact ⟨h _ _ e0, h _ _ e1, h _ _ e2, h _ _ e3⟩
/-- a token and an error number -/
def oneTok (s : ByteArray) (a : Nat) (p : Piece) : Tok := ⟨p.kind, s.extract a (a + p.len), p.value, a⟩
def lexGo (s : ByteArray) : Nat → Nat → List Tok → Except Int (List Tok)
  | 0, _, l => .ok l
  | f + 1, k, l =>
    if h : k < s.size then
      if s[k].toNat = 32 then lexGo s f (k + 1) l
      else match one (s.data.toList.drop k) with
        | .error e => .error e
        | .ok p => lexGo s f (k + p.len) (l ++ [oneTok s k p])
    else .ok l
def lex (s : ByteArray) : Except Int (List Tok) := if 4000 < s.size then .error 3 else lexGo s (s.size + 1) 0 []
theorem lexGo_space {s : ByteArray} {f k : Nat} {l : List Tok} (h : k < s.size) (h1 : s[k].toNat = 32) : lexGo s (f + 1) k l = lexGo s f (k + 1) l := by
  simp only [lexGo, dif_pos h, if_pos h1]
theorem lexGo_tok {s : ByteArray} {f k : Nat} {l : List Tok} {p : Piece} (h : k < s.size) (h1 : ¬ s[k].toNat = 32) (h2 : one (s.data.toList.drop k) = .ok p) : lexGo s (f + 1) k l = lexGo s f (k + p.len) (l ++ [oneTok s k p]) := by
  simp only [lexGo, dif_pos h, if_neg h1, h2]
theorem lexGo_err {s : ByteArray} {f k : Nat} {l : List Tok} {e : Int} (h : k < s.size) (h1 : ¬ s[k].toNat = 32) (h2 : one (s.data.toList.drop k) = .error e) : lexGo s (f + 1) k l = .error e := by
  simp only [lexGo, dif_pos h, if_neg h1, h2]
theorem lexGo_end {s : ByteArray} {f k : Nat} {l : List Tok} (h : s.size ≤ k) : lexGo s f k l = .ok l := by
  cases f with
  | zero => rfl
  | succ f => simp only [lexGo, dif_neg (show ¬ k < s.size by omega)]
theorem one_err {l : List UInt8} {e : Int} (h : one l = .error e) : e = 2 ∨ e = 3 ∨ e = 4 := by
  cases l with
  | nil => injection h with h; exact .inl h.symm
  | cons b l =>
    simp only [one] at h
    repeat' split at h
    all_goals first
      | (cases h; done)
      | (injection h with h; subst h; simp)
end Lex
end Go.Proofs.YthehchdonmmpaaaGreatDoor
namespace Go.Proofs.YthehchdonmmpaaaGreatDoor
open Go.ChangeShapes Go.WideShapes Go.ChangeAt Go.RowKit
set_option linter.unusedVariables false
set_option linter.unusedSimpArgs false
namespace Lex
theorem span_head {p : UInt8 → Bool} {b : UInt8} {l : List UInt8} (h : p b = true) : span p l + 1 = span p (b :: l) := (span_cons h).symm
theorem inn_of_let {b : UInt8} (h : isLet b = true) : isInn b = true := by simp [isInn, h]
theorem span_all (p : UInt8 → Bool) : ∀ (l : List UInt8) (i : Nat) (h : i < span p l) (h2 : i < l.length), p l[i] = true
  | [], _, h, _ => by simp [span] at h
  | b :: l, i, h, h2 => by
    unfold span at h
    split at h
    · rename_i hb
      cases i with
      | zero => exact hb
      | succ i => exact span_all p l i (by omega) (by simpa using h2)
    · omega
theorem extract_get (s : ByteArray) (a n k : Nat) (h : a + n ≤ s.size) (hk : k < (s.extract a (a + n)).size) : (s.extract a (a + n))[k] = s.data.toList[a + k]'(by simp at hk; simp; omega) := by
  simp [ByteArray.getElem_eq_getElem_data]

end Lex
end Go.Proofs.YthehchdonmmpaaaGreatDoor
