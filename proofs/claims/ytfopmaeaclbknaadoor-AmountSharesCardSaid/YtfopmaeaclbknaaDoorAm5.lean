/- The laws AmountChecks and AmountTexts: walks. Printed by gen_am5.py. -/
import Derived.Test.YtfopmaeaclbknaaDoorAm4
namespace Go.Proofs.YtfopmaeaclbknaaDoor
open Go.ChangeShapes Go.WideShapes Go.ChangeAt Go.RowKit
set_option linter.unusedVariables false
set_option linter.unusedSimpArgs false
namespace Am
open Lex (isDig val val_snoc)
theorem rcheck_any (v : Int) (w : World) : Calls Tryd.prog 23 #[.int .i64 v] w fun e w' => e = .returned (.int .i64 (So.okE v)) ∧ w = w' := by
  have HE : Hid (So.okE v = if 0 ≤ v ∧ v ≤ 1000000 then 0 else 4) := rfl
  by_cases h0 : v < 0
  · have d1 : decide (v < 0) = true := decide_eq_true h0
    have HF : Hid (So.okE v = 4) := by show _ = _; rw [HE.out, if_neg (by omega)]
    clear h0
    go_enter Tryd.func23, Tryd.ntmps23
    go_wp2_with fail
    go_ret
    exact ⟨by rw [HF.out]; rfl, rfl⟩
  · have d1 : decide (v < 0) = false := decide_eq_false h0
    by_cases h1 : 1000000 < v
    · have d2 : decide (1000000 < v) = true := decide_eq_true h1
      have HF : Hid (So.okE v = 4) := by show _ = _; rw [HE.out, if_neg (by omega)]
      clear h0 h1
      go_enter Tryd.func23, Tryd.ntmps23
      go_wp2_with fail
      go_ret
      exact ⟨by rw [HF.out]; rfl, rfl⟩
    · have d2 : decide (1000000 < v) = false := decide_eq_false h1
      have HF : Hid (So.okE v = 0) := by show _ = _; rw [HE.out, if_pos (by omega)]
      clear h0 h1
      go_enter Tryd.func23, Tryd.ntmps23
      go_wp2_with fail
      go_ret
      exact ⟨by rw [HF.out]; rfl, rfl⟩
/-- the law's answer -/
def LawPost (w : World) (e : Ending) (w' : World) : Prop := e = .returned (.bool true) ∧ Below w.heap.size w w'
theorem law_checks (v : Int) (w : World) (ht : Tab w) : Calls Tryd.prog 6 #[.int .i64 v] w (LawPost w) := by
  have CA := Lib.hid (awake_any w ht)
  have C1 := Lib.hid (So.check_any v w)
  have C2 := Lib.hid (rcheck_any v w)
  generalize So.okE v = x at *
  have q : (x == x) = true := by simp
  clear ht
  go_enter Tryd.func6, Tryd.ntmps6
  go_wp2_with fail
  refine C1.out.mono ?_
  rintro e w1 ⟨rfl, rfl⟩
  go_wp2_with fail
  refine C2.out.mono ?_
  rintro e w1 ⟨rfl, rfl⟩
  go_wp2_with fail
  refine CA.out.mono ?_
  rintro e w1 ⟨rfl, b1⟩
  have B1 := Lib.hid b1
  clear b1
  go_wp2_with fail
  go_ret
  exact ⟨rfl, B1.out⟩
/- the numeral -/
theorem ofNat_dig {d : Nat} (h : d ≤ 9) : (UInt8.ofNat (48 + d)).toNat = 48 + d := by
  rw [UInt8.toNat_ofNat']
  omega
theorem isDig_of {d : Nat} (h : d ≤ 9) : isDig (UInt8.ofNat (48 + d)) = true := by
  unfold isDig
  rw [ofNat_dig h]
  simp
  omega
theorem dec_all (n : Nat) : ∀ b ∈ Lib.decDigits n, isDig b = true := by
  induction n using Nat.strongRecOn with
  | _ n ih =>
    by_cases h : n < 10
    · rw [dec_small h]
      intro b hb
      rw [List.mem_singleton.1 hb]
      exact isDig_of (by omega)
    · rw [dec_big h]
      intro b hb
      rcases List.mem_append.1 hb with hb | hb
      · exact ih (n / 10) (by omega) b hb
      · rw [List.mem_singleton.1 hb]
        exact isDig_of (by omega)
theorem dec_val (n : Nat) : val (Lib.decDigits n) = n := by
  induction n using Nat.strongRecOn with
  | _ n ih =>
    by_cases h : n < 10
    · rw [dec_small h]
      show 0 * 10 + ((UInt8.ofNat (48 + n)).toNat - 48) = n
      rw [ofNat_dig (by omega)]
      omega
    · rw [dec_big h, val_snoc, ih (n / 10) (by omega), ofNat_dig (by omega)]
      omega
theorem dec_ne (n : Nat) : Lib.decDigits n ≠ [] := by
  by_cases h : n < 10
  · rw [dec_small h]; simp
  · rw [dec_big h]; simp
theorem dec_head (n : Nat) (h : n ≠ 0) : ∃ d l, Lib.decDigits n = UInt8.ofNat (48 + d) :: l ∧ 1 ≤ d ∧ d ≤ 9 := by
  induction n using Nat.strongRecOn with
  | _ n ih =>
    by_cases h9 : n < 10
    · exact ⟨n, [], dec_small h9, by omega, by omega⟩
    · obtain ⟨d, l, e, h1, h2⟩ := ih (n / 10) (by omega) (by omega)
      exact ⟨d, l ++ [UInt8.ofNat (48 + n % 10)], by rw [dec_big h9, e]; rfl, h1, h2⟩
theorem ba_list (l : List UInt8) : (⟨l.toArray⟩ : ByteArray).size = l.length := by simp [ByteArray.size]
theorem reads_dec (n : Nat) : ∃ v e : Int, Reads ⟨(Lib.decDigits n).toArray⟩ v e ∧ (n ≤ 1000000 → v = (n : Int) ∧ e = 0) ∧ (1000000 < n → v = 0 ∧ e = 4) := by
  have ha : PAll ⟨(Lib.decDigits n).toArray⟩ := all_of _ (List.all_eq_true.2 (dec_all n))
  have hp : pn ⟨(Lib.decDigits n).toArray⟩ (⟨(Lib.decDigits n).toArray⟩ : ByteArray).size = n := by
    unfold pn
    rw [List.take_of_length_le (by rw [ba_list]; exact Nat.le_refl _)]
    exact dec_val n
  have h0 : 0 < (⟨(Lib.decDigits n).toArray⟩ : ByteArray).size := by rw [ba_list]; exact List.length_pos_iff.2 (dec_ne n)
  have hz : ∀ (h : 1 < (⟨(Lib.decDigits n).toArray⟩ : ByteArray).size), ¬ ((⟨(Lib.decDigits n).toArray⟩ : ByteArray)[0]'(by omega)).toNat = 48 := by
    intro h h48
    by_cases hn : n = 0
    · subst hn
      rw [ba_list, dec_small (by decide)] at h
      simp at h
    · obtain ⟨d, l, e, h1, h2⟩ := dec_head n hn
      have : ((⟨(Lib.decDigits n).toArray⟩ : ByteArray)[0]'(by omega)) = UInt8.ofNat (48 + d) := by
        show (Lib.decDigits n).toArray[0]'_ = _
        simp [e]
      rw [this, ofNat_dig h2] at h48
      omega
  have hz2 : ¬ (1 < (⟨(Lib.decDigits n).toArray⟩ : ByteArray).size ∧ ((⟨(Lib.decDigits n).toArray⟩ : ByteArray)[0]'h0).toNat = 48) := fun h => hz h.1 h.2
  by_cases hn : n ≤ 1000000
  · have := Reads.ok h0 ha hz2 (by rw [hp]; exact hn)
    rw [hp] at this
    exact ⟨_, _, this, fun _ => ⟨rfl, rfl⟩, fun h => by omega⟩
  · exact ⟨_, _, Reads.big h0 ha hz2 (by rw [hp]; omega), fun h => by omega, fun _ => ⟨rfl, rfl⟩⟩
theorem reads_neg (l : List UInt8) : Reads ⟨(45 :: l).toArray⟩ 0 2 := by
  have h : 0 < (⟨(45 :: l).toArray⟩ : ByteArray).size := by rw [ba_list]; simp
  have e : ((⟨(45 :: l).toArray⟩ : ByteArray)[0]'h) = 45 := by
    show (45 :: l).toArray[0]'(by simp) = 45
    simp
  exact .bad 0 ⟨h, by rw [e]; rfl, fun j h => by omega⟩
theorem itoa_size (v : Int) (h0 : -9223372036854775808 ≤ v) (h1 : v ≤ 9223372036854775807) : (⟨(Lib.itoa v).toArray⟩ : ByteArray).size ≤ 100 := by
  rw [ba_list]
  unfold Lib.itoa
  split
  · have := dec_len20 (n := v.natAbs) (by unfold U64; omega)
    simp
    omega
  · have := dec_len20 (n := v.toNat) (by unfold U64; omega)
    omega
/-- what the numeral reads as -/
theorem reads_itoa (v : Int) : ∃ n g : Int, Reads ⟨(Lib.itoa v).toArray⟩ n g ∧ (v < 0 → g = 2) ∧ (1000000 < v → g = 4) ∧ (0 ≤ v → v ≤ 1000000 → g = 0 ∧ n = v) := by
  unfold Lib.itoa
  by_cases h : v < 0
  · rw [if_pos h]
    exact ⟨0, 2, reads_neg _, fun _ => rfl, fun h => by omega, fun h => by omega⟩
  · rw [if_neg h]
    obtain ⟨n, g, hr, h1, h2⟩ := reads_dec v.toNat
    exact ⟨n, g, hr, fun h' => absurd h' h, fun h' => (h2 (by omega)).2, fun a b => ⟨(h1 (by omega)).2, by rw [(h1 (by omega)).1]; omega⟩⟩
theorem law_texts_long (v : Int) (s : ByteArray) (w : World) (hs : 100 < s.size) (ht : Tab w) : Calls Tryd.prog 5 #[.int .i64 v, .string s] w (LawPost w) := by
  have CA := Lib.hid (awake_any w ht)
  have d1 : decide ((100 : Int) < (s.size : Int)) = true := decide_eq_true (by omega)
  clear ht hs
  go_enter Tryd.func5, Tryd.ntmps5
  go_wp2_with fail
  refine CA.out.mono ?_
  rintro e w1 ⟨rfl, b1⟩
  have B1 := Lib.hid b1
  clear b1
  go_wp2_with fail
  go_ret
  exact ⟨rfl, B1.out⟩
set_option maxHeartbeats 1000000 in
theorem law_texts_neg (v : Int) (s : ByteArray) (w : World) (h0 : -9223372036854775808 ≤ v) (h1 : v ≤ 9223372036854775807) (hs : s.size ≤ 100) (ht : Tab w) (hv : v < 0) : Calls Tryd.prog 5 #[.int .i64 v, .string s] w (LawPost w) := by
  obtain ⟨v1, e1, hr⟩ := reads_any s
  have C1 := Lib.hid (fun w => parse_any s w hs hr)
  have C2 := Lib.hid (fun w => rparse_any s w hs hr)
  have CF := Lib.hid (fun w' (b : Below w.heap.size w w') => format_any v w' h0 h1 (ht.keep b))
  have CR := Lib.hid (fun w' => rformat_any v w' h0 h1)
  obtain ⟨n, g, hri, g1, g2, g3⟩ := reads_itoa v
  have CP := Lib.hid (fun w => parse_any ⟨(Lib.itoa v).toArray⟩ w (itoa_size v h0 h1) hri)
  unfold fmtPost at CF CR
  generalize (⟨(Lib.itoa v).toArray⟩ : ByteArray) = t at *
  have CA := Lib.hid (fun w' (b : Below w.heap.size w w') => awake_any w' (ht.keep b))
  have d1 : decide ((100 : Int) < (s.size : Int)) = false := decide_eq_false (by omega)
  have x1 : (v1 != v1) = false := by simp
  have x2 : (e1 != e1) = false := by simp
  clear ht hs hr hri
  obtain rfl := g1 hv
  have y1 : decide (v < 0) = true := decide_eq_true hv
  clear g1 g2 g3 hv h0 h1
  go_enter Tryd.func5, Tryd.ntmps5
  go_wp2_with fail
  refine (C1.out _).mono ?_
  rintro e w1 ⟨rfl, rfl⟩
  go_wp2_with fail
  refine (C2.out _).mono ?_
  rintro e w1 ⟨rfl, rfl⟩
  go_wp2_with fail
  refine (CF.out _ (Below.refl _ _)).mono ?_
  rintro e w1 ⟨rfl, b1⟩
  have B1 := Lib.hid b1
  clear b1
  go_wp2_with fail
  refine (CP.out _).mono ?_
  rintro e w2 ⟨rfl, rfl⟩
  go_wp2_with fail
  refine (CF.out _ B1.out).mono ?_
  rintro e w2 ⟨rfl, b2⟩
  have B2 := Lib.hid (chain0 B1.out b2)
  clear b2
  go_wp2_with fail
  refine (CR.out _).mono ?_
  rintro e w3 ⟨rfl, b3⟩
  have B3 := Lib.hid (chain0 B2.out b3)
  clear b3
  go_wp2_with fail
  refine (CA.out _ B3.out).mono ?_
  rintro e w4 ⟨rfl, b4⟩
  have B4 := Lib.hid (chain0 B3.out b4)
  clear b4
  go_wp2_with fail
  go_ret
  exact ⟨rfl, B4.out⟩
set_option maxHeartbeats 1000000 in
theorem law_texts_big (v : Int) (s : ByteArray) (w : World) (h0 : -9223372036854775808 ≤ v) (h1 : v ≤ 9223372036854775807) (hs : s.size ≤ 100) (ht : Tab w) (hv : 1000000 < v) : Calls Tryd.prog 5 #[.int .i64 v, .string s] w (LawPost w) := by
  obtain ⟨v1, e1, hr⟩ := reads_any s
  have C1 := Lib.hid (fun w => parse_any s w hs hr)
  have C2 := Lib.hid (fun w => rparse_any s w hs hr)
  have CF := Lib.hid (fun w' (b : Below w.heap.size w w') => format_any v w' h0 h1 (ht.keep b))
  have CR := Lib.hid (fun w' => rformat_any v w' h0 h1)
  obtain ⟨n, g, hri, g1, g2, g3⟩ := reads_itoa v
  have CP := Lib.hid (fun w => parse_any ⟨(Lib.itoa v).toArray⟩ w (itoa_size v h0 h1) hri)
  unfold fmtPost at CF CR
  generalize (⟨(Lib.itoa v).toArray⟩ : ByteArray) = t at *
  have CA := Lib.hid (fun w' (b : Below w.heap.size w w') => awake_any w' (ht.keep b))
  have d1 : decide ((100 : Int) < (s.size : Int)) = false := decide_eq_false (by omega)
  have x1 : (v1 != v1) = false := by simp
  have x2 : (e1 != e1) = false := by simp
  clear ht hs hr hri
  obtain rfl := g2 hv
  have y1 : decide (v < 0) = false := decide_eq_false (by omega)
  have y2 : decide (1000000 < v) = true := decide_eq_true hv
  clear g1 g2 g3 hv h0 h1
  go_enter Tryd.func5, Tryd.ntmps5
  go_wp2_with fail
  refine (C1.out _).mono ?_
  rintro e w1 ⟨rfl, rfl⟩
  go_wp2_with fail
  refine (C2.out _).mono ?_
  rintro e w1 ⟨rfl, rfl⟩
  go_wp2_with fail
  refine (CF.out _ (Below.refl _ _)).mono ?_
  rintro e w1 ⟨rfl, b1⟩
  have B1 := Lib.hid b1
  clear b1
  go_wp2_with fail
  refine (CP.out _).mono ?_
  rintro e w2 ⟨rfl, rfl⟩
  go_wp2_with fail
  refine (CF.out _ B1.out).mono ?_
  rintro e w2 ⟨rfl, b2⟩
  have B2 := Lib.hid (chain0 B1.out b2)
  clear b2
  go_wp2_with fail
  refine (CR.out _).mono ?_
  rintro e w3 ⟨rfl, b3⟩
  have B3 := Lib.hid (chain0 B2.out b3)
  clear b3
  go_wp2_with fail
  refine (CA.out _ B3.out).mono ?_
  rintro e w4 ⟨rfl, b4⟩
  have B4 := Lib.hid (chain0 B3.out b4)
  clear b4
  go_wp2_with fail
  go_ret
  exact ⟨rfl, B4.out⟩
set_option maxHeartbeats 1000000 in
theorem law_texts_ok (v : Int) (s : ByteArray) (w : World) (h0 : -9223372036854775808 ≤ v) (h1 : v ≤ 9223372036854775807) (hs : s.size ≤ 100) (ht : Tab w) (hv0 : 0 ≤ v) (hv1 : v ≤ 1000000) : Calls Tryd.prog 5 #[.int .i64 v, .string s] w (LawPost w) := by
  obtain ⟨v1, e1, hr⟩ := reads_any s
  have C1 := Lib.hid (fun w => parse_any s w hs hr)
  have C2 := Lib.hid (fun w => rparse_any s w hs hr)
  have CF := Lib.hid (fun w' (b : Below w.heap.size w w') => format_any v w' h0 h1 (ht.keep b))
  have CR := Lib.hid (fun w' => rformat_any v w' h0 h1)
  obtain ⟨n, g, hri, g1, g2, g3⟩ := reads_itoa v
  have CP := Lib.hid (fun w => parse_any ⟨(Lib.itoa v).toArray⟩ w (itoa_size v h0 h1) hri)
  unfold fmtPost at CF CR
  generalize (⟨(Lib.itoa v).toArray⟩ : ByteArray) = t at *
  have CA := Lib.hid (fun w' (b : Below w.heap.size w w') => awake_any w' (ht.keep b))
  have d1 : decide ((100 : Int) < (s.size : Int)) = false := decide_eq_false (by omega)
  have x1 : (v1 != v1) = false := by simp
  have x2 : (e1 != e1) = false := by simp
  clear ht hs hr hri
  obtain ⟨rfl, rfl⟩ := g3 hv0 hv1
  have y1 : decide (n < 0) = false := decide_eq_false (by omega)
  have y2 : decide (1000000 < n) = false := decide_eq_false (by omega)
  have y3 : (n == n) = true := by simp
  clear g1 g2 g3 hv0 hv1 h0 h1
  go_enter Tryd.func5, Tryd.ntmps5
  go_wp2_with fail
  refine (C1.out _).mono ?_
  rintro e w1 ⟨rfl, rfl⟩
  go_wp2_with fail
  refine (C2.out _).mono ?_
  rintro e w1 ⟨rfl, rfl⟩
  go_wp2_with fail
  refine (CF.out _ (Below.refl _ _)).mono ?_
  rintro e w1 ⟨rfl, b1⟩
  have B1 := Lib.hid b1
  clear b1
  go_wp2_with fail
  refine (CP.out _).mono ?_
  rintro e w2 ⟨rfl, rfl⟩
  go_wp2_with fail
  refine (CF.out _ B1.out).mono ?_
  rintro e w2 ⟨rfl, b2⟩
  have B2 := Lib.hid (chain0 B1.out b2)
  clear b2
  go_wp2_with fail
  refine (CR.out _).mono ?_
  rintro e w3 ⟨rfl, b3⟩
  have B3 := Lib.hid (chain0 B2.out b3)
  clear b3
  go_wp2_with fail
  refine (CA.out _ B3.out).mono ?_
  rintro e w4 ⟨rfl, b4⟩
  have B4 := Lib.hid (chain0 B3.out b4)
  clear b4
  go_wp2_with fail
  go_ret
  exact ⟨rfl, B4.out⟩
theorem law_texts (v : Int) (s : ByteArray) (w : World) (h0 : -9223372036854775808 ≤ v) (h1 : v ≤ 9223372036854775807) (ht : Tab w) : Calls Tryd.prog 5 #[.int .i64 v, .string s] w (LawPost w) := by
  by_cases hs : s.size ≤ 100
  · by_cases hv : v < 0
    · exact law_texts_neg v s w h0 h1 hs ht hv
    · by_cases hv2 : 1000000 < v
      · exact law_texts_big v s w h0 h1 hs ht hv2
      · exact law_texts_ok v s w h0 h1 hs ht (by omega) (by omega)
  · exact law_texts_long v s w (by omega) ht
end Am
end Go.Proofs.YtfopmaeaclbknaaDoor
