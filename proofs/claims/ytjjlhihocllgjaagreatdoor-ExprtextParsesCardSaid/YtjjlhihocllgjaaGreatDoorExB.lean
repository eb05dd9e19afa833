/- The reference's number, fits, text, Format. Printed by gen_exB.py. -/
import Derived.Test.YtjjlhihocllgjaaGreatDoorExA
import Derived.Test.YtjjlhihocllgjaaGreatDoorEx6
namespace Go.Proofs.YtjjlhihocllgjaaGreatDoor.Ex
open Go.ChangeShapes Go.WideShapes Go.ChangeAt Go.RowKit Gn Cat Lex
set_option linter.unusedVariables false
set_option linter.unusedSimpArgs false
attribute [local go_sem] later_cell
theorem conv_digit (W : World) (g : Nat) (x : Int) (h0 : 0 ≤ x) (h1 : x ≤ 255) (hc : W.cell? ⟨g, 0, none⟩ = some (.int .u8 x)) : (convert 158 9 (.slice (some ⟨g, 0, none⟩) 1 1)).run Tryz.prog W = .ok (.string ⟨#[UInt8.ofNat x.toNat]⟩) W := by
  have := run_convert_bytes_back (P := Tryz.prog) W 158 9 5 ⟨g, 0, none⟩ 1 [UInt8.ofNat x.toNat] (by kernel_rfl) (by kernel_rfl) (by kernel_rfl) ?_
  · exact this
  · intro j hj
    obtain rfl : j = 0 := by simpa using hj
    show W.cell? ⟨g, 0, none⟩ = _
    have e : ((UInt8.ofNat x.toNat).toNat : Int) = x := by simp; omega
    rw [show [UInt8.ofNat x.toNat][0] = UInt8.ofNat x.toNat from rfl, e]
    exact hc
theorem add_small (a b : ByteArray) (h : a.size ≤ 2000) (h2 : b.size ≤ 2000) (W : World) : (Op.stringOp .add a b).run Tryz.prog W = .ok (.string (a ++ b)) W := run_string_add_sum W _ _ (by omega)
theorem dec_small {u : Nat} (h : u < 10) : Lib.decDigits u = [UInt8.ofNat (48 + u)] := by rw [Lib.decDigits, dif_pos h]
theorem dec_big {u : Nat} (h : ¬ u < 10) : Lib.decDigits u = Lib.decDigits (u / 10) ++ [UInt8.ofNat (48 + u % 10)] := by
  conv => lhs; rw [Lib.decDigits]
  rw [dif_neg h]
theorem dec_len : ∀ (k u : Nat), u < 10 ^ (k + 1) → (Lib.decDigits u).length ≤ k + 1
  | 0, u, h => by
    rw [Nat.zero_add, Nat.pow_one] at h
    rw [dec_small h]
    exact Nat.le_refl _
  | k + 1, u, h => by
    by_cases h9 : u < 10
    · rw [dec_small h9]; simp
    · rw [dec_big h9, List.length_append]
      have := dec_len k (u / 10) (Nat.div_lt_of_lt_mul (by rw [Nat.pow_succ, Nat.mul_comm] at h; exact h))
      simp only [List.length_cons, List.length_nil]
      omega
def U64 : Nat := 18446744073709551616
theorem dec_len20 {n : Nat} (h : n < U64) : (Lib.decDigits n).length ≤ 20 := dec_len 19 n (Nat.lt_of_lt_of_le h (by decide))
theorem ba_cons (x : UInt8) (s : ByteArray) : (⟨#[x]⟩ ++ s : ByteArray).data.toList = x :: s.data.toList := by simp [ByteArray.data_append]
theorem ba_size (s : ByteArray) : s.size = s.data.toList.length := rfl
theorem ba_of {s : ByteArray} {l : List UInt8} (h : s.data.toList = l) : s = ⟨l.toArray⟩ := by
  apply ByteArray.ext
  rw [← h]
/-- one digit -/
theorem digit_facts (m : Nat) : ∃ d : Nat, (d = m % 10 ∧ d ≤ 9) ∧ (m : Int) % 10 = (d : Int) ∧ (48 + (d : Int)).toNat = 48 + d := ⟨m % 10, ⟨rfl, by omega⟩, by omega, by omega⟩
theorem decS_pos (n : Nat) : decS (n : Int) = ⟨(Lib.decDigits n).toArray⟩ := by
  unfold decS Lib.itoa
  rw [if_neg (by omega), Int.toNat_natCast]
abbrev boolN (v : Value) : Nat := match v with | .bool true => 1 | _ => 0
/-- all bundles fit -/
def fitsF (l : List Prod) : Nat → Tree → Bool
  | 0, _ => false
  | d + 1, e => rfitsB e.want l && e.args.all (fitsF l d)
theorem rfits_zero {l : List Prod} {p : Nat → Int} (hz : checkE l = 0) (h : eq6 p zero6 = true) : rfitsB p l = true := by
  have h6 := (eq6_iff p zero6).1 h
  have hv : validB p = true := validB_iff.2 fun k hk => by rw [h6 k hk]; unfold zero6; omega
  have ht : tailB p l.length = true := by
    unfold tailB
    rw [List.all_eq_true]
    intro k hk
    simp only [List.mem_range] at hk
    rw [h6 k (by omega)]
    simp [zero6]
  unfold rfitsB fitsB
  rw [hz, hv, ht]
  rfl
/-- the texts' word on fitting is that of all bundles -/
theorem fits_text {l : List Prod} (hz : checkE l = 0) : ∀ (d : Nat) (e : Tree), errN (preF d e) = 0 → (textF l d e).2 = fitsF l d e
  | 0, _, _ => rfl
  | d + 1, e, h => by
    obtain ⟨hf, hr, ha⟩ := err_parts h
    have hall : (e.args.all fun x => (textF l d x).2) = e.args.all (fitsF l d) := by
      rw [Bool.eq_iff_iff, List.all_eq_true, List.all_eq_true]
      constructor
      · intro q x hx; rw [← fits_text hz d x (ha x hx)]; exact q x hx
      · intro q x hx; rw [fits_text hz d x (ha x hx)]; exact q x hx
    rw [textF, fitsF]
    by_cases h1 : e.op = 1
    · rw [if_pos h1]
      have : e.args.length = 0 := by
        unfold formB at hf
        rw [if_pos h1] at hf
        exact of_decide_eq_true hf
      have hn : e.args = [] := List.length_eq_zero_iff.1 this
      rw [hn]
      simp
    · rw [if_neg h1]
      dsimp only
      have hw : e.op = 4 ∨ eq6 e.want zero6 = true := by
        unfold formB at hf
        rw [if_neg h1] at hf
        split at hf
        · simp only [Bool.and_eq_true] at hf; exact .inr hf.1.2
        · split at hf
          · exact .inl (by assumption)
          · split at hf
            · simp only [Bool.and_eq_true] at hf; exact .inr hf.2
            · cases hf
      by_cases h2 : e.op = 2
      · rw [if_pos h2, hall, rfits_zero hz (hw.resolve_left (by omega))]; simp
      · rw [if_neg h2]
        by_cases h3 : e.op = 3
        · rw [if_pos h3, hall, rfits_zero hz (hw.resolve_left (by omega))]; simp
        · rw [if_neg h3]
          by_cases h4 : e.op = 4
          · rw [if_pos h4, hall, Bool.and_comm]
          · rw [if_neg h4, hall, rfits_zero hz (hw.resolve_left h4)]; simp
end Go.Proofs.YtjjlhihocllgjaaGreatDoor.Ex
