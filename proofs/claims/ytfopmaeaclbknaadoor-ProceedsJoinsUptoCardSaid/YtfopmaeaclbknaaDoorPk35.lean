/- The laws AmountChecks and AmountTexts: walks. Printed by gen_am5.py. Plain: rows las functions of the index; swaps, rotations, insertions and merges on them. -/
import Derived.Test.YtfopmaeaclbknaaDoorPk27
import Derived.Test.YtfopmaeaclbknaaDoorPk10
namespace Go.Proofs.YtfopmaeaclbknaaDoor
open Go.ChangeShapes Go.WideShapes Go.ChangeAt Go.RowKit
set_option linter.unusedVariables false
set_option linter.unusedSimpArgs false
namespace Am
open Lex (isDig val val_snoc)
theorem rcheck_any (v : Int) (w : World) : Calls Tryd.prog 23 #[.int .i64 v] w fun e w' => e = .returned (.int .i64 (So.okE v)) ∧ w = w' := by
  have HE : Hid (So.okE v = if 0 ≤ v ∧ v ≤ 1000000 then 0 else 4) := rfl
  by_cases h0 : v < 0
  · have d1 : decide (v < 0) = true := decide_eq_true h0
    have HF : Hid (So.okE v = 4) := by show _ = _; rw [HE.out, if_neg (by omega)]
    clear h0
    go_enter Tryd.func23, Tryd.ntmps23
    go_wp2_with fail
    go_ret
    exact ⟨by rw [HF.out]; rfl, rfl⟩
  · have d1 : decide (v < 0) = false := decide_eq_false h0
    by_cases h1 : 1000000 < v
    · have d2 : decide (1000000 < v) = true := decide_eq_true h1
      have HF : Hid (So.okE v = 4) := by show _ = _; rw [HE.out, if_neg (by omega)]
      clear h0 h1
      go_enter Tryd.func23, Tryd.ntmps23
      go_wp2_with fail
      go_ret
      exact ⟨by rw [HF.out]; rfl, rfl⟩
    · have d2 : decide (1000000 < v) = false := decide_eq_false h1
      have HF : Hid (So.okE v = 0) := by show _ = _; rw [HE.out, if_pos (by omega)]
      clear h0 h1
      go_enter Tryd.func23, Tryd.ntmps23
      go_wp2_with fail
      go_ret
      exact ⟨by rw [HF.out]; rfl, rfl⟩
/-- the law's answer -/
def LawPost (w : World) (e : Ending) (w' : World) : Prop := e = .returned (.bool true) ∧ Below w.heap.size w w'
theorem law_checks (v : Int) (w : World) (ht : Tab w) : Calls Tryd.prog 6 #[.int .i64 v] w (LawPost w) := by
  have CA := Lib.hid (awake_any w ht)
  have C1 := Lib.hid (So.check_any v w)
  have C2 := Lib.hid (rcheck_any v w)
  generalize So.okE v = x at *
  have q : (x == x) = true := by simp
  clear ht
  go_enter Tryd.func6, Tryd.ntmps6
  go_wp2_with fail
  refine C1.out.mono ?_
  rintro e w1 ⟨rfl, rfl⟩
  go_wp2_with fail
  refine C2.out.mono ?_
  rintro e w1 ⟨rfl, rfl⟩
  go_wp2_with fail
  refine CA.out.mono ?_
  rintro e w1 ⟨rfl, b1⟩
  have B1 := Lib.hid b1
  clear b1
  go_wp2_with fail
  go_ret
  exact ⟨rfl, B1.out⟩
/- the numeral -/
theorem ofNat_dig {d : Nat} (h : d ≤ 9) : (UInt8.ofNat (48 + d)).toNat = 48 + d := by
  rw [UInt8.toNat_ofNat']
  omega
theorem isDig_of {d : Nat} (h : d ≤ 9) : isDig (UInt8.ofNat (48 + d)) = true := by
  unfold isDig
  rw [ofNat_dig h]
  simp
  omega
theorem dec_all (n : Nat) : ∀ b ∈ Lib.decDigits n, isDig b = true := by
  induction n using Nat.strongRecOn with
  | _ n ih =>
    by_cases h : n < 10
    · rw [dec_small h]
      intro b hb
      rw [List.mem_singleton.1 hb]
      exact isDig_of (by omega)
    · rw [dec_big h]
      intro b hb
      rcases List.mem_append.1 hb with hb | hb
      · exact ih (n / 10) (by omega) b hb
      · rw [List.mem_singleton.1 hb]
        exact isDig_of (by omega)
theorem dec_val (n : Nat) : val (Lib.decDigits n) = n := by
  induction n using Nat.strongRecOn with
  | _ n ih =>
    by_cases h : n < 10
    · rw [dec_small h]
      show 0 * 10 + ((UInt8.ofNat (48 + n)).toNat - 48) = n
      rw [ofNat_dig (by omega)]
      omega
    · rw [dec_big h, val_snoc, ih (n / 10) (by omega), ofNat_dig (by omega)]
      omega
theorem dec_ne (n : Nat) : Lib.decDigits n ≠ [] := by
  by_cases h : n < 10
  · rw [dec_small h]; simp
  · rw [dec_big h]; simp
theorem dec_head (n : Nat) (h : n ≠ 0) : ∃ d l, Lib.decDigits n = UInt8.ofNat (48 + d) :: l ∧ 1 ≤ d ∧ d ≤ 9 := by
  induction n using Nat.strongRecOn with
  | _ n ih =>
    by_cases h9 : n < 10
    · exact ⟨n, [], dec_small h9, by omega, by omega⟩
    · obtain ⟨d, l, e, h1, h2⟩ := ih (n / 10) (by omega) (by omega)
      exact ⟨d, l ++ [UInt8.ofNat (48 + n % 10)], by rw [dec_big h9, e]; rfl, h1, h2⟩
theorem ba_list (l : List UInt8) : (⟨l.toArray⟩ : ByteArray).size = l.length := by simp [ByteArray.size]
theorem reads_dec (n : Nat) : ∃ v e : Int, Reads ⟨(Lib.decDigits n).toArray⟩ v e ∧ (n ≤ 1000000 → v = (n : Int) ∧ e = 0) ∧ (1000000 < n → v = 0 ∧ e = 4) := by
  have ha : PAll ⟨(Lib.decDigits n).toArray⟩ := all_of _ (List.all_eq_true.2 (dec_all n))
  have hp : pn ⟨(Lib.decDigits n).toArray⟩ (⟨(Lib.decDigits n).toArray⟩ : ByteArray).size = n := by
    unfold pn
    rw [List.take_of_length_le (by rw [ba_list]; exact Nat.le_refl _)]
    exact dec_val n
  have h0 : 0 < (⟨(Lib.decDigits n).toArray⟩ : ByteArray).size := by rw [ba_list]; exact List.length_pos_iff.2 (dec_ne n)
  have hz : ∀ (h : 1 < (⟨(Lib.decDigits n).toArray⟩ : ByteArray).size), ¬ ((⟨(Lib.decDigits n).toArray⟩ : ByteArray)[0]'(by omega)).toNat = 48 := by
    intro h h48
    by_cases hn : n = 0
    · subst hn
      rw [ba_list, dec_small (by decide)] at h
      simp at h
    · obtain ⟨d, l, e, h1, h2⟩ := dec_head n hn
      have : ((⟨(Lib.decDigits n).toArray⟩ : ByteArray)[0]'(by omega)) = UInt8.ofNat (48 + d) := by
        show (Lib.decDigits n).toArray[0]'_ = _
        simp [e]
      rw [this, ofNat_dig h2] at h48
      omega
  have hz2 : ¬ (1 < (⟨(Lib.decDigits n).toArray⟩ : ByteArray).size ∧ ((⟨(Lib.decDigits n).toArray⟩ : ByteArray)[0]'h0).toNat = 48) := fun h => hz h.1 h.2
  by_cases hn : n ≤ 1000000
  · have := Reads.ok h0 ha hz2 (by rw [hp]; exact hn)
    rw [hp] at this
    exact ⟨_, _, this, fun _ => ⟨rfl, rfl⟩, fun h => by omega⟩
  · exact ⟨_, _, Reads.big h0 ha hz2 (by rw [hp]; omega), fun h => by omega, fun _ => ⟨rfl, rfl⟩⟩
theorem reads_neg (l : List UInt8) : Reads ⟨(45 :: l).toArray⟩ 0 2 := by
  have h : 0 < (⟨(45 :: l).toArray⟩ : ByteArray).size := by rw [ba_list]; simp
  have e : ((⟨(45 :: l).toArray⟩ : ByteArray)[0]'h) = 45 := by
    show (45 :: l).toArray[0]'(by simp) = 45
    simp
  exact .bad 0 ⟨h, by rw [e]; rfl, fun j h => by omega⟩
theorem itoa_size (v : Int) (h0 : -9223372036854775808 ≤ v) (h1 : v ≤ 9223372036854775807) : (⟨(Lib.itoa v).toArray⟩ : ByteArray).size ≤ 100 := by
  rw [ba_list]
  unfold Lib.itoa
  split
  · have := dec_len20 (n := v.natAbs) (by unfold U64; omega)
    simp
    omega
  · have := dec_len20 (n := v.toNat) (by unfold U64; omega)
    omega
/-- what the numeral reads as -/
theorem reads_itoa (v : Int) : ∃ n g : Int, Reads ⟨(Lib.itoa v).toArray⟩ n g ∧ (v < 0 → g = 2) ∧ (1000000 < v → g = 4) ∧ (0 ≤ v → v ≤ 1000000 → g = 0 ∧ n = v) := by
  unfold Lib.itoa
  by_cases h : v < 0
  · rw [if_pos h]
    exact ⟨0, 2, reads_neg _, fun _ => rfl, fun h => by omega, fun h => by omega⟩
  · rw [if_neg h]
    obtain ⟨n, g, hr, h1, h2⟩ := reads_dec v.toNat
    exact ⟨n, g, hr, fun h' => absurd h' h, fun h' => (h2 (by omega)).2, fun a b => ⟨(h1 (by omega)).2, by rw [(h1 (by omega)).1]; omega⟩⟩
theorem law_texts_long (v : Int) (s : ByteArray) (w : World) (hs : 100 < s.size) (ht : Tab w) : Calls Tryd.prog 5 #[.int .i64 v, .string s] w (LawPost w) := by
  have CA := Lib.hid (awake_any w ht)
  have d1 : decide ((100 : Int) < (s.size : Int)) = true := decide_eq_true (by omega)
  clear ht hs
  go_enter Tryd.func5, Tryd.ntmps5
  go_wp2_with fail
  refine CA.out.mono ?_
  rintro e w1 ⟨rfl, b1⟩
  have B1 := Lib.hid b1
  clear b1
  go_wp2_with fail
  go_ret
  exact ⟨rfl, B1.out⟩
set_option maxHeartbeats 1000000 in
theorem law_texts_neg (v : Int) (s : ByteArray) (w : World) (h0 : -9223372036854775808 ≤ v) (h1 : v ≤ 9223372036854775807) (hs : s.size ≤ 100) (ht : Tab w) (hv : v < 0) : Calls Tryd.prog 5 #[.int .i64 v, .string s] w (LawPost w) := by
  obtain ⟨v1, e1, hr⟩ := reads_any s
  have C1 := Lib.hid (fun w => parse_any s w hs hr)
  have C2 := Lib.hid (fun w => rparse_any s w hs hr)
  have CF := Lib.hid (fun w' (b : Below w.heap.size w w') => format_any v w' h0 h1 (ht.keep b))
  have CR := Lib.hid (fun w' => rformat_any v w' h0 h1)
  obtain ⟨n, g, hri, g1, g2, g3⟩ := reads_itoa v
  have CP := Lib.hid (fun w => parse_any ⟨(Lib.itoa v).toArray⟩ w (itoa_size v h0 h1) hri)
  unfold fmtPost at CF CR
  generalize (⟨(Lib.itoa v).toArray⟩ : ByteArray) = t at *
  have CA := Lib.hid (fun w' (b : Below w.heap.size w w') => awake_any w' (ht.keep b))
  have d1 : decide ((100 : Int) < (s.size : Int)) = false := decide_eq_false (by omega)
  have x1 : (v1 != v1) = false := by simp
  have x2 : (e1 != e1) = false := by simp
  clear ht hs hr hri
  obtain rfl := g1 hv
  have y1 : decide (v < 0) = true := decide_eq_true hv
  clear g1 g2 g3 hv h0 h1
  go_enter Tryd.func5, Tryd.ntmps5
  go_wp2_with fail
  refine (C1.out _).mono ?_
  rintro e w1 ⟨rfl, rfl⟩
  go_wp2_with fail
  refine (C2.out _).mono ?_
  rintro e w1 ⟨rfl, rfl⟩
  go_wp2_with fail
  refine (CF.out _ (Below.refl _ _)).mono ?_
  rintro e w1 ⟨rfl, b1⟩
  have B1 := Lib.hid b1
  clear b1
  go_wp2_with fail
  refine (CP.out _).mono ?_
  rintro e w2 ⟨rfl, rfl⟩
  go_wp2_with fail
  refine (CF.out _ B1.out).mono ?_
  rintro e w2 ⟨rfl, b2⟩
  have B2 := Lib.hid (chain0 B1.out b2)
  clear b2
  go_wp2_with fail
  refine (CR.out _).mono ?_
  rintro e w3 ⟨rfl, b3⟩
  have B3 := Lib.hid (chain0 B2.out b3)
  clear b3
  go_wp2_with fail
  refine (CA.out _ B3.out).mono ?_
  rintro e w4 ⟨rfl, b4⟩
  have B4 := Lib.hid (chain0 B3.out b4)
  clear b4
  go_wp2_with fail
  go_ret
  exact ⟨rfl, B4.out⟩
set_option maxHeartbeats 1000000 in
theorem law_texts_big (v : Int) (s : ByteArray) (w : World) (h0 : -9223372036854775808 ≤ v) (h1 : v ≤ 9223372036854775807) (hs : s.size ≤ 100) (ht : Tab w) (hv : 1000000 < v) : Calls Tryd.prog 5 #[.int .i64 v, .string s] w (LawPost w) := by
  obtain ⟨v1, e1, hr⟩ := reads_any s
  have C1 := Lib.hid (fun w => parse_any s w hs hr)
  have C2 := Lib.hid (fun w => rparse_any s w hs hr)
  have CF := Lib.hid (fun w' (b : Below w.heap.size w w') => format_any v w' h0 h1 (ht.keep b))
  have CR := Lib.hid (fun w' => rformat_any v w' h0 h1)
  obtain ⟨n, g, hri, g1, g2, g3⟩ := reads_itoa v
  have CP := Lib.hid (fun w => parse_any ⟨(Lib.itoa v).toArray⟩ w (itoa_size v h0 h1) hri)
  unfold fmtPost at CF CR
  generalize (⟨(Lib.itoa v).toArray⟩ : ByteArray) = t at *
  have CA := Lib.hid (fun w' (b : Below w.heap.size w w') => awake_any w' (ht.keep b))
  have d1 : decide ((100 : Int) < (s.size : Int)) = false := decide_eq_false (by omega)
  have x1 : (v1 != v1) = false := by simp
  have x2 : (e1 != e1) = false := by simp
  clear ht hs hr hri
  obtain rfl := g2 hv
  have y1 : decide (v < 0) = false := decide_eq_false (by omega)
  have y2 : decide (1000000 < v) = true := decide_eq_true hv
  clear g1 g2 g3 hv h0 h1
  go_enter Tryd.func5, Tryd.ntmps5
  go_wp2_with fail
  refine (C1.out _).mono ?_
  rintro e w1 ⟨rfl, rfl⟩
  go_wp2_with fail
  refine (C2.out _).mono ?_
  rintro e w1 ⟨rfl, rfl⟩
  go_wp2_with fail
  refine (CF.out _ (Below.refl _ _)).mono ?_
  rintro e w1 ⟨rfl, b1⟩
  have B1 := Lib.hid b1
  clear b1
  go_wp2_with fail
  refine (CP.out _).mono ?_
  rintro e w2 ⟨rfl, rfl⟩
  go_wp2_with fail
  refine (CF.out _ B1.out).mono ?_
  rintro e w2 ⟨rfl, b2⟩
  have B2 := Lib.hid (chain0 B1.out b2)
  clear b2
  go_wp2_with fail
  refine (CR.out _).mono ?_
  rintro e w3 ⟨rfl, b3⟩
  have B3 := Lib.hid (chain0 B2.out b3)
  clear b3
  go_wp2_with fail
  refine (CA.out _ B3.out).mono ?_
  rintro e w4 ⟨rfl, b4⟩
  have B4 := Lib.hid (chain0 B3.out b4)
  clear b4
  go_wp2_with fail
  go_ret
  exact ⟨rfl, B4.out⟩
set_option maxHeartbeats 1000000 in
theorem law_texts_ok (v : Int) (s : ByteArray) (w : World) (h0 : -9223372036854775808 ≤ v) (h1 : v ≤ 9223372036854775807) (hs : s.size ≤ 100) (ht : Tab w) (hv0 : 0 ≤ v) (hv1 : v ≤ 1000000) : Calls Tryd.prog 5 #[.int .i64 v, .string s] w (LawPost w) := by
  obtain ⟨v1, e1, hr⟩ := reads_any s
  have C1 := Lib.hid (fun w => parse_any s w hs hr)
  have C2 := Lib.hid (fun w => rparse_any s w hs hr)
  have CF := Lib.hid (fun w' (b : Below w.heap.size w w') => format_any v w' h0 h1 (ht.keep b))
  have CR := Lib.hid (fun w' => rformat_any v w' h0 h1)
  obtain ⟨n, g, hri, g1, g2, g3⟩ := reads_itoa v
  have CP := Lib.hid (fun w => parse_any ⟨(Lib.itoa v).toArray⟩ w (itoa_size v h0 h1) hri)
  unfold fmtPost at CF CR
  generalize (⟨(Lib.itoa v).toArray⟩ : ByteArray) = t at *
  have CA := Lib.hid (fun w' (b : Below w.heap.size w w') => awake_any w' (ht.keep b))
  have d1 : decide ((100 : Int) < (s.size : Int)) = false := decide_eq_false (by omega)
  have x1 : (v1 != v1) = false := by simp
  have x2 : (e1 != e1) = false := by simp
  clear ht hs hr hri
  obtain ⟨rfl, rfl⟩ := g3 hv0 hv1
  have y1 : decide (n < 0) = false := decide_eq_false (by omega)
  have y2 : decide (1000000 < n) = false := decide_eq_false (by omega)
  have y3 : (n == n) = true := by simp
  clear g1 g2 g3 hv0 hv1 h0 h1
  go_enter Tryd.func5, Tryd.ntmps5
  go_wp2_with fail
  refine (C1.out _).mono ?_
  rintro e w1 ⟨rfl, rfl⟩
  go_wp2_with fail
  refine (C2.out _).mono ?_
  rintro e w1 ⟨rfl, rfl⟩
  go_wp2_with fail
  refine (CF.out _ (Below.refl _ _)).mono ?_
  rintro e w1 ⟨rfl, b1⟩
  have B1 := Lib.hid b1
  clear b1
  go_wp2_with fail
  refine (CP.out _).mono ?_
  rintro e w2 ⟨rfl, rfl⟩
  go_wp2_with fail
  refine (CF.out _ B1.out).mono ?_
  rintro e w2 ⟨rfl, b2⟩
  have B2 := Lib.hid (chain0 B1.out b2)
  clear b2
  go_wp2_with fail
  refine (CR.out _).mono ?_
  rintro e w3 ⟨rfl, b3⟩
  have B3 := Lib.hid (chain0 B2.out b3)
  clear b3
  go_wp2_with fail
  refine (CA.out _ B3.out).mono ?_
  rintro e w4 ⟨rfl, b4⟩
  have B4 := Lib.hid (chain0 B3.out b4)
  clear b4
  go_wp2_with fail
  go_ret
  exact ⟨rfl, B4.out⟩
theorem law_texts (v : Int) (s : ByteArray) (w : World) (h0 : -9223372036854775808 ≤ v) (h1 : v ≤ 9223372036854775807) (ht : Tab w) : Calls Tryd.prog 5 #[.int .i64 v, .string s] w (LawPost w) := by
  by_cases hs : s.size ≤ 100
  · by_cases hv : v < 0
    · exact law_texts_neg v s w h0 h1 hs ht hv
    · by_cases hv2 : 1000000 < v
      · exact law_texts_big v s w h0 h1 hs ht hv2
      · exact law_texts_ok v s w h0 h1 hs ht (by omega) (by omega)
  · exact law_texts_long v s w (by omega) ht
end Am
end Go.Proofs.YtfopmaeaclbknaaDoor
namespace Go.Proofs.YtfopmaeaclbknaaDoor
open Go.ChangeShapes Go.WideShapes Go.ChangeAt Go.RowKit
set_option linter.unusedVariables false
namespace So
def rowF (n : Nat) (f : Nat → Nat) : List Nat := (List.range n).map f
def upd (f : Nat → Nat) (i x : Nat) : Nat → Nat := fun k => if k = i then x else f k
theorem rowF_len {n : Nat} {f : Nat → Nat} : (rowF n f).length = n := by simp [rowF]
theorem rowF_at {n i : Nat} {f : Nat → Nat} (h : i < n) : (rowF n f)[i]? = some (f i) := by simp [rowF, h]
theorem rowF_set {n i x : Nat} {f : Nat → Nat} : (rowF n f).set i x = rowF n (upd f i x) := by
  refine List.ext_getElem (by simp [rowF]) fun k h1 h2 => ?_
  simp only [rowF, List.getElem_set, List.getElem_map, List.getElem_range, upd]
  by_cases e : i = k
  · rw [if_pos e, if_pos e.symm]
  · rw [if_neg e, if_neg (fun h => e h.symm)]
theorem rowF_of (l : List Nat) : rowF l.length (fun i => l.getD i 0) = l := by
  refine List.ext_getElem (by simp [rowF]) fun k h1 h2 => ?_
  simp [rowF, List.getD, h2]
theorem rowF_congr {n : Nat} {f f' : Nat → Nat} (h : ∀ k, k < n → f k = f' k) : rowF n f = rowF n f' := by
  refine List.ext_getElem (by simp [rowF]) fun k h1 h2 => ?_
  simp only [rowF, List.getElem_map, List.getElem_range]
  exact h k (by simpa [rowF] using h1)
/-- a row of the call's own, of natural numbers -/
def RowF (w : World) (base g : Nat) (e : TypeId) (n : Nat) (f : Nat → Nat) : Prop := RowV w base g e n (ints (rowF n f))
section
variable {w w1 : World} {base g n : Nat} {e : TypeId} {f : Nat → Nat}
theorem RowF.cell (h : RowF w base g e n f) {i : Nat} (hi : i < n) : w.cell? ⟨g, i, none⟩ = some (.int .i64 ((f i : Nat) : Int)) := (RowV.cell h hi).trans (ints_at (rowF_at hi))
theorem RowF.free (h : RowF w base g e n f) (i : Nat) : w.frozen? ⟨g, i, none⟩ = false := RowV.free h i
theorem RowF.lt (h : RowF w base g e n f) : g < w.heap.size := RowV.lt h
theorem RowF.put (h : RowF w base g e n f) (i x : Nat) : RowF (w.setCell ⟨g, i, none⟩ (.int .i64 ((x : Nat) : Int))) base g e n (upd f i x) := by
  have h1 := RowV.put h i (.int .i64 ((x : Nat) : Int))
  rw [ints_set, rowF_set] at h1
  exact h1
theorem RowF.drewN (h : RowF w base g e n f) (m : Nat) : RowF (w.drewN m) base g e n f := RowV.drewN h m
theorem RowF.drew (h : RowF w base g e n f) : RowF w.drew base g e n f := RowV.drew h
end
/-- two ranges of n elements have changed places -/
def swapF (f : Nat → Nat) (a b n : Nat) : Nat → Nat := fun k => if a ≤ k ∧ k < a + n then f (k + (b - a)) else if b ≤ k ∧ k < b + n then f (k - (b - a)) else f k
theorem swapF_zero {f : Nat → Nat} {a b : Nat} : swapF f a b 0 = f := by
  funext k
  unfold swapF
  rw [if_neg (by omega), if_neg (by omega)]
theorem swapF_at {f : Nat → Nat} {a b n i : Nat} (h : a + n ≤ b) (hi : i < n) : swapF f a b i (a + i) = f (a + i) ∧ swapF f a b i (b + i) = f (b + i) := by
  unfold swapF
  exact ⟨by rw [if_neg (by omega), if_neg (by omega)], by rw [if_neg (by omega), if_neg (by omega)]⟩
theorem swapF_step {f : Nat → Nat} {a b n i : Nat} (h : a + n ≤ b) (hi : i < n) : upd (upd (swapF f a b i) (a + i) (f (b + i))) (b + i) (f (a + i)) = swapF f a b (i + 1) := by
  funext k
  unfold upd swapF
  by_cases h1 : k = b + i
  · rw [if_pos h1, if_neg (by omega), if_pos (by omega)]; congr 1; omega
  · rw [if_neg h1]
    by_cases h2 : k = a + i
    · rw [if_pos h2, if_pos (by omega)]; congr 1; omega
    · rw [if_neg h2]
      by_cases h3 : a ≤ k ∧ k < a + i
      · rw [if_pos h3, if_pos (by omega)]
      · rw [if_neg h3, if_neg (show ¬ (a ≤ k ∧ k < a + (i + 1)) by omega)]
        by_cases h4 : b ≤ k ∧ k < b + i
        · rw [if_pos h4, if_pos (by omega)]
        · rw [if_neg h4, if_neg (by omega)]
/-- two neighbouring blocks have changed places -/
def rotF (f : Nat → Nat) (a m b : Nat) : Nat → Nat := fun k => if a ≤ k ∧ k < a + (b - m) then f (k + (m - a)) else if a + (b - m) ≤ k ∧ k < b then f (k - (b - m)) else f k
theorem rotF_gt {f : Nat → Nat} {m i j : Nat} (hi : i ≤ m) (h : j < i) (hj : 0 < j) : rotF (swapF f (m - i) m j) (m - (i - j)) m (m + j) = rotF f (m - i) m (m + j) := by
  funext k
  unfold rotF swapF
  repeat' split
  all_goals first | omega | (congr 1; omega) | rfl
theorem rotF_lt {f : Nat → Nat} {m i j : Nat} (hi : i ≤ m) (h : i < j) (h0 : 0 < i) : rotF (swapF f (m - i) (m + j - i) i) (m - i) m (m + (j - i)) = rotF f (m - i) m (m + j) := by
  funext k
  unfold rotF swapF
  repeat' split
  all_goals first | omega | (congr 1; omega) | rfl
theorem rotF_eq {f : Nat → Nat} {m i : Nat} (hi : i ≤ m) : swapF f (m - i) m i = rotF f (m - i) m (m + i) := by
  funext k
  unfold rotF swapF
  repeat' split
  all_goals first | omega | (congr 1; omega) | rfl
/-- the elements from a up to b are in order -/
def SortedF (r : Nat → Nat) (f : Nat → Nat) (a b : Nat) : Prop := ∀ i j, a ≤ i → i < j → j < b → LT r (f i) (f j)
/-- the elements from a up to b have been mixed, the others are las they were -/
structure MixF (f f' : Nat → Nat) (a b : Nat) : Prop where
  out : ∀ k, k < a ∨ b ≤ k → f' k = f k
  src : ∀ i, a ≤ i → i < b → ∃ j, a ≤ j ∧ j < b ∧ f' i = f j
theorem MixF.refl (f : Nat → Nat) (a b : Nat) : MixF f f a b := ⟨fun _ _ => rfl, fun i h1 h2 => ⟨i, h1, h2, rfl⟩⟩
theorem MixF.trans {f f1 f2 : Nat → Nat} {a b : Nat} (h : MixF f f1 a b) (k : MixF f1 f2 a b) : MixF f f2 a b := by
  refine ⟨fun i hi => (k.out i hi).trans (h.out i hi), fun i h1 h2 => ?_⟩
  obtain ⟨j, j1, j2, e⟩ := k.src i h1 h2
  obtain ⟨x, x1, x2, e'⟩ := h.src j j1 j2
  exact ⟨x, x1, x2, e.trans e'⟩
theorem MixF.wide {f f1 : Nat → Nat} {a b a' b' : Nat} (h : MixF f f1 a b) (ha : a' ≤ a) (hb : b ≤ b') : MixF f f1 a' b' := by
  refine ⟨fun i hi => h.out i (by omega), fun i h1 h2 => ?_⟩
  by_cases hh : a ≤ i ∧ i < b
  · obtain ⟨j, j1, j2, e⟩ := h.src i hh.1 hh.2
    exact ⟨j, by omega, by omega, e⟩
  · exact ⟨i, h1, h2, h.out i (by omega)⟩
theorem rotF_mix {f : Nat → Nat} {a m b : Nat} (h1 : a ≤ m) (h2 : m ≤ b) : MixF f (rotF f a m b) a b := by
  refine ⟨fun k hk => ?_, fun i i1 i2 => ?_⟩
  · unfold rotF; rw [if_neg (by omega), if_neg (by omega)]
  · unfold rotF
    by_cases h : i < a + (b - m)
    · exact ⟨i + (m - a), by omega, by omega, by rw [if_pos ⟨i1, h⟩]⟩
    · exact ⟨i - (b - m), by omega, by omega, by rw [if_neg (by omega), if_pos (by omega)]⟩
/-- the first element has gone to the place i -/
def insR (f : Nat → Nat) (a i : Nat) : Nat → Nat := fun k => if a ≤ k ∧ k < i then f (k + 1) else if k = i then f a else f k
theorem insR_zero {f : Nat → Nat} {a : Nat} : insR f a a = f := by
  funext k
  unfold insR
  rw [if_neg (by omega)]
  split
  · rename_i h; rw [h]
  · rfl
theorem insR_at {f : Nat → Nat} {a k : Nat} (h : a ≤ k) : insR f a k k = f a ∧ insR f a k (k + 1) = f (k + 1) := by
  unfold insR
  exact ⟨by rw [if_neg (by omega), if_pos rfl], by rw [if_neg (by omega), if_neg (by omega)]⟩
theorem insR_step {f : Nat → Nat} {a k : Nat} (h : a ≤ k) : upd (upd (insR f a k) k (f (k + 1))) (k + 1) (f a) = insR f a (k + 1) := by
  funext x
  unfold upd insR
  by_cases h1 : x = k + 1
  · rw [if_pos h1, if_neg (by omega), if_pos h1]
  · rw [if_neg h1]
    by_cases h2 : x = k
    · rw [if_pos h2, if_pos (by omega), h2]
    · rw [if_neg h2]
      by_cases h3 : a ≤ x ∧ x < k
      · rw [if_pos h3, if_pos (by omega)]
      · rw [if_neg h3, if_neg h2, if_neg (show ¬ (a ≤ x ∧ x < k + 1) by omega), if_neg h1]
theorem insR_mix {f : Nat → Nat} {a i b : Nat} (h1 : a ≤ i) (h2 : i < b) : MixF f (insR f a i) a b := by
  refine ⟨fun k hk => ?_, fun k k1 k2 => ?_⟩
  · unfold insR; rw [if_neg (by omega), if_neg (by omega)]
  · unfold insR
    by_cases h : k < i
    · exact ⟨k + 1, by omega, by omega, by rw [if_pos ⟨k1, h⟩]⟩
    · by_cases e : k = i
      · exact ⟨a, by omega, by omega, by rw [if_neg (by omega), if_pos e]⟩
      · exact ⟨k, k1, k2, by rw [if_neg (by omega), if_neg e]⟩
theorem insR_sorted {r f : Nat → Nat} {a b i : Nat} (hs : SortedF r f (a + 1) b) (h1 : a ≤ i) (h2 : i < b) (hl : ∀ k, a < k → k ≤ i → LT r (f k) (f a)) (hg : ∀ k, i < k → k < b → LT r (f a) (f k)) : SortedF r (insR f a i) a b := by
  intro x y hx hxy hy
  unfold insR
  by_cases c1 : x < i
  · rw [if_pos ⟨hx, c1⟩]
    by_cases c2 : y < i
    · rw [if_pos ⟨by omega, c2⟩]; exact hs _ _ (by omega) (by omega) (by omega)
    · rw [if_neg (by omega)]
      by_cases c3 : y = i
      · rw [if_pos c3]; exact hl _ (by omega) (by omega)
      · rw [if_neg c3]; exact hs _ _ (by omega) (by omega) (by omega)
  · rw [if_neg (by omega), if_neg (show ¬ (a ≤ y ∧ y < i) by omega), if_neg (show ¬ y = i by omega)]
    by_cases c3 : x = i
    · rw [if_pos c3]; exact hg _ (by omega) hy
    · rw [if_neg c3]; exact hs _ _ (by omega) (by omega) (by omega)
/-- the element at m has gone to the place i -/
def insL (f : Nat → Nat) (i m : Nat) : Nat → Nat := fun k => if k = i then f m else if i < k ∧ k ≤ m then f (k - 1) else f k
theorem insL_zero {f : Nat → Nat} {m : Nat} : insL f m m = f := by
  funext k
  unfold insL
  split
  · rename_i h; rw [h]
  · rw [if_neg (by omega)]
theorem insL_at {f : Nat → Nat} {k m : Nat} (h : k < m) : insL f (k + 1) m (k + 1) = f m ∧ insL f (k + 1) m k = f k := by
  unfold insL
  exact ⟨by rw [if_pos rfl], by rw [if_neg (by omega), if_neg (by omega)]⟩
theorem insL_step {f : Nat → Nat} {k m : Nat} (h : k < m) : upd (upd (insL f (k + 1) m) (k + 1) (f k)) k (f m) = insL f k m := by
  funext x
  unfold upd insL
  by_cases h1 : x = k
  · rw [if_pos h1, if_pos h1]
  · rw [if_neg h1, if_neg h1]
    by_cases h2 : x = k + 1
    · rw [if_pos h2, if_pos (by omega), h2]; rfl
    · rw [if_neg h2, if_neg h2]
      by_cases h3 : k + 1 < x ∧ x ≤ m
      · rw [if_pos h3, if_pos (by omega)]
      · rw [if_neg h3, if_neg (by omega)]
theorem insL_mix {f : Nat → Nat} {a i m b : Nat} (h1 : a ≤ i) (h2 : i ≤ m) (h3 : m < b) : MixF f (insL f i m) a b := by
  refine ⟨fun k hk => ?_, fun k k1 k2 => ?_⟩
  · unfold insL; rw [if_neg (by omega), if_neg (by omega)]
  · unfold insL
    by_cases e : k = i
    · exact ⟨m, by omega, by omega, by rw [if_pos e]⟩
    · by_cases h : i < k ∧ k ≤ m
      · exact ⟨k - 1, by omega, by omega, by rw [if_neg e, if_pos h]⟩
      · exact ⟨k, k1, k2, by rw [if_neg e, if_neg h]⟩
theorem insL_sorted {r f : Nat → Nat} {a i m : Nat} (hs : SortedF r f a m) (h1 : a ≤ i) (h2 : i ≤ m) (hl : ∀ k, a ≤ k → k < i → LT r (f k) (f m)) (hg : ∀ k, i ≤ k → k < m → LT r (f m) (f k)) : SortedF r (insL f i m) a (m + 1) := by
  intro x y hx hxy hy
  unfold insL
  by_cases c1 : y = i
  · rw [if_neg (show ¬ x = i by omega), if_neg (show ¬ (i < x ∧ x ≤ m) by omega), if_pos c1]; exact hl _ hx (by omega)
  · rw [if_neg c1]
    by_cases c2 : x = i
    · rw [if_pos c2, if_pos (by omega)]; exact hg _ (by omega) (by omega)
    · rw [if_neg c2]
      by_cases c3 : i < x
      · rw [if_pos ⟨c3, by omega⟩, if_pos ⟨by omega, by omega⟩]; exact hs _ _ (by omega) (by omega) (by omega)
      · rw [if_neg (by omega)]
        by_cases c4 : i < y
        · rw [if_pos ⟨c4, by omega⟩]; exact hs _ _ (by omega) (by omega) (by omega)
        · rw [if_neg (by omega)]; exact hs _ _ (by omega) (by omega) (by omega)
/-- what a search by halving has found: behind i all stand before x, from j on none does -/
theorem srch_r {r f : Nat → Nat} {m b x i : Nat} (hs : SortedF r f m b) (hi : m ≤ i) (hib : i ≤ b) (h1 : i = m ∨ LT r (f (i - 1)) x) (h2 : i = b ∨ LT r x (f i)) : (∀ k, m ≤ k → k < i → LT r (f k) x) ∧ (∀ k, i ≤ k → k < b → LT r x (f k)) := by
  refine ⟨fun k k1 k2 => ?_, fun k k1 k2 => ?_⟩
  · rcases h1 with h | h
    · omega
    · by_cases e : k = i - 1
      · rw [e]; exact h
      · exact (hs k (i - 1) k1 (by omega) (by omega)).trans h
  · rcases h2 with h | h
    · omega
    · by_cases e : k = i
      · rw [e]; exact h
      · exact h.trans (hs i k (by omega) (by omega) k2)
/-- where a merge is parted -/
structure CutF (r f : Nat → Nat) (a m b s e : Nat) : Prop where
  las : a ≤ s
  sm : s ≤ m
  me : m ≤ e
  eb : e ≤ b
  lo : ∀ i j, a ≤ i → i < s → e ≤ j → j < b → LT r (f i) (f j)
  hi : ∀ i j, m ≤ i → i < e → s ≤ j → j < m → LT r (f i) (f j)
theorem cut_of {r f : Nat → Nat} {a m b s e : Nat} (hA : SortedF r f a m) (hB : SortedF r f m b) (las : a ≤ s) (sm : s ≤ m) (me : m ≤ e) (eb : e ≤ b) (h1 : s = a ∨ e = b ∨ LT r (f (s - 1)) (f e)) (h2 : s = m ∨ e = m ∨ LT r (f (e - 1)) (f s)) : CutF r f a m b s e := by
  refine ⟨las, sm, me, eb, fun i j i1 i2 j1 j2 => ?_, fun i j i1 i2 j1 j2 => ?_⟩
  · rcases h1 with h | h | h
    · omega
    · omega
    · have k1 : LT r (f i) (f e) := by
        by_cases c : i = s - 1
        · rw [c]; exact h
        · exact (hA i (s - 1) i1 (by omega) (by omega)).trans h
      by_cases c : j = e
      · rw [c]; exact k1
      · exact k1.trans (hB e j (by omega) (by omega) j2)
  · rcases h2 with h | h | h
    · omega
    · omega
    · have k1 : LT r (f i) (f s) := by
        by_cases c : i = e - 1
        · rw [c]; exact h
        · exact (hB i (e - 1) i1 (by omega) (by omega)).trans h
      by_cases c : j = s
      · rw [c]; exact k1
      · exact k1.trans (hA s j (by omega) (by omega) j2)
/-- the rotated row: two merges are left, all of the first before all of the second -/
structure HalvesF (r f : Nat → Nat) (a s d e b : Nat) : Prop where
  s1 : SortedF r f a s
  s2 : SortedF r f s d
  s3 : SortedF r f d e
  s4 : SortedF r f e b
  lo : ∀ i j, a ≤ i → i < d → d ≤ j → j < b → LT r (f i) (f j)
theorem rot_halves {r f : Nat → Nat} {a m b s e d : Nat} (hA : SortedF r f a m) (hB : SortedF r f m b) (c : CutF r f a m b s e) (hd : d = s + (e - m)) : HalvesF r (rotF f s m e) a s d e b := by
  obtain ⟨las, sm, me, eb, lo, hi⟩ := c
  have g1 : ∀ k, k < s → rotF f s m e k = f k := fun k h => by unfold rotF; rw [if_neg (by omega), if_neg (by omega)]
  have g2 : ∀ k, s ≤ k → k < d → rotF f s m e k = f (k + (m - s)) := fun k h h' => by unfold rotF; rw [if_pos (by omega)]
  have g3 : ∀ k, d ≤ k → k < e → rotF f s m e k = f (k - (e - m)) := fun k h h' => by unfold rotF; rw [if_neg (by omega), if_pos (by omega)]
  have g4 : ∀ k, e ≤ k → rotF f s m e k = f k := fun k h => by unfold rotF; rw [if_neg (by omega), if_neg (by omega)]
  refine ⟨fun i j h1 h2 h3 => ?_, fun i j h1 h2 h3 => ?_, fun i j h1 h2 h3 => ?_, fun i j h1 h2 h3 => ?_, fun i j h1 h2 h3 h4 => ?_⟩
  · rw [g1 i (by omega), g1 j h3]; exact hA _ _ h1 h2 (by omega)
  · rw [g2 i h1 (by omega), g2 j (by omega) h3]; exact hB _ _ (by omega) (by omega) (by omega)
  · rw [g3 i h1 (by omega), g3 j (by omega) h3]; exact hA _ _ (by omega) (by omega) (by omega)
  · rw [g4 i h1, g4 j (by omega)]; exact hB _ _ (by omega) h2 h3
  · by_cases c1 : i < s
    · rw [g1 i c1]
      by_cases c2 : j < e
      · rw [g3 j h3 c2]; exact hA _ _ h1 (by omega) (by omega)
      · rw [g4 j (by omega)]; exact lo _ _ h1 c1 (by omega) h4
    · rw [g2 i (by omega) h2]
      by_cases c2 : j < e
      · rw [g3 j h3 c2]; exact hi _ _ (by omega) (by omega) (by omega) (by omega)
      · rw [g4 j (by omega)]; exact hB _ _ (by omega) (by omega) h4
/-- all elements of the left lie below all of the right -/
def LeftF (f : Nat → Nat) (a m b : Nat) : Prop := ∀ i j, a ≤ i → i < m → m ≤ j → j < b → f i < f j
theorem rot_left {f : Nat → Nat} {a m b s e d : Nat} (h : LeftF f a m b) (las : a ≤ s) (sm : s ≤ m) (me : m ≤ e) (eb : e ≤ b) (hd : d = s + (e - m)) : LeftF (rotF f s m e) a s d ∧ LeftF (rotF f s m e) d e b := by
  constructor
  · intro i j h1 h2 h3 h4
    unfold rotF
    rw [if_neg (by omega), if_neg (by omega), if_pos (by omega)]
    exact h _ _ h1 (by omega) (by omega) (by omega)
  · intro i j h1 h2 h3 h4
    unfold rotF
    rw [if_neg (by omega), if_pos (by omega), if_neg (by omega), if_neg (by omega)]
    exact h _ _ (by omega) (by omega) (by omega) (by omega)
/-- both halves are merged -/
theorem halves_done {r f f1 f2 : Nat → Nat} {a d b : Nat} (lo : ∀ i j, a ≤ i → i < d → d ≤ j → j < b → LT r (f i) (f j)) (m1 : MixF f f1 a d) (m2 : MixF f1 f2 d b) (s1 : SortedF r f1 a d) (s2 : SortedF r f2 d b) : SortedF r f2 a b := by
  intro i j h1 h2 h3
  by_cases c1 : j < d
  · rw [m2.out i (by omega), m2.out j (by omega)]; exact s1 _ _ h1 h2 c1
  · by_cases c2 : i < d
    · rw [m2.out i (by omega)]
      obtain ⟨x, x1, x2, e⟩ := m1.src i h1 c2
      obtain ⟨y, y1, y2, e'⟩ := m2.src j (by omega) h3
      rw [e, e', m1.out y (by omega)]
      exact lo _ _ x1 x2 y1 y2
    · exact s2 _ _ (by omega) h2 h3
theorem MixF.lt {f f1 : Nat → Nat} {a b n N : Nat} (h : MixF f f1 a b) (hb : b ≤ n) (hN : ∀ k, k < n → f k < N) : ∀ k, k < n → f1 k < N := by
  intro k hk
  by_cases c : a ≤ k ∧ k < b
  · obtain ⟨j, j1, j2, e⟩ := h.src k c.1 c.2
    rw [e]; exact hN j (by omega)
  · rw [h.out k (by omega)]; exact hN k hk
theorem sorted_mix {r f f1 : Nat → Nat} {a b c d : Nat} (h : MixF f f1 a b) (hs : SortedF r f c d) (hd : d ≤ a ∨ b ≤ c) : SortedF r f1 c d := by
  intro i j h1 h2 h3
  rw [h.out i (by omega), h.out j (by omega)]
  exact hs i j h1 h2 h3
theorem left_mix {f f1 : Nat → Nat} {a b c d e : Nat} (h : MixF f f1 a b) (hs : LeftF f c d e) (hd : e ≤ a ∨ b ≤ c) : LeftF f1 c d e := by
  intro i j h1 h2 h3 h4
  rw [h.out i (by omega), h.out j (by omega)]
  exact hs i j h1 h2 h3 h4
/-- a list without doubles whose elements all come from a list of the same length is a permutation of it -/
theorem perm_of_sub : ∀ (l k : List Nat), l.Nodup → (∀ x ∈ l, x ∈ k) → k.length ≤ l.length → l.Perm k
  | [], k, _, _, h => by
    rw [List.eq_nil_of_length_eq_zero (by simpa using h : k.length = 0)]
  | x :: l, k, hn, hs, h => by
    have hx : x ∈ k := hs x (by simp)
    have hp : k.Perm (x :: k.erase x) := List.perm_cons_erase hx
    have hn' := List.nodup_cons.1 hn
    refine (List.Perm.cons x (perm_of_sub l (k.erase x) hn'.2 (fun y hy => ?_) ?_)).trans hp.symm
    · have hne : y ≠ x := fun e => hn'.1 (e ▸ hy)
      exact (List.mem_erase_of_ne hne).2 (hs y (by simp [hy]))
    · have := List.length_erase_of_mem hx
      simp at h
      omega
end So
end Go.Proofs.YtfopmaeaclbknaaDoor
