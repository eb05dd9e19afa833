/- Contracts of number, mark, ContainsRune. -/
import Derived.Test.YtabkaaapkcadhaaLex1
namespace Go.Proofs.Ytabkaaapkcadhaa
open Go.ChangeShapes Go.WideShapes Go.ChangeAt Go.RowKit
namespace Lex

/-- the value of the first k bytes -/
def valT (t : ByteArray) (k : Nat) : Nat := val (t.data.toList.take k)
theorem valT_snoc (t : ByteArray) (k : Nat) (h : k < t.size) : valT t (k + 1) = valT t k * 10 + (t[k].toNat - 48) := by
  unfold valT
  rw [List.take_add_one, List.getElem?_eq_getElem (by exact h)]
  exact val_snoc _ _
theorem dig_le {b : UInt8} (h : isDig b = true) : 48 ≤ b.toNat ∧ b.toNat ≤ 57 := by
  unfold isDig at h
  simpa using h
theorem valT_lt (t : ByteArray) (hd : ∀ k (h : k < t.size), isDig t[k] = true) : ∀ k, k ≤ t.size → valT t k + 1 ≤ 10 ^ k
  | 0, _ => by simp [valT, val]
  | k + 1, h => by
    have h1 := valT_lt t hd k (by omega)
    rw [valT_snoc t k (by omega), Nat.pow_succ]
    have h2 := dig_le (hd k (by omega))
    omega
theorem valT_small (t : ByteArray) (hd : ∀ k (h : k < t.size), isDig t[k] = true) (hs : t.size ≤ 9) (k : Nat) (hk : k ≤ t.size) : valT t k < 1000000000 := by
  have h1 := valT_lt t hd k hk
  have h2 : 10 ^ k ≤ 10 ^ 9 := Nat.pow_le_pow_right (by omega) (by omega)
  omega
theorem valT_end (t : ByteArray) (k : Nat) (h : t.size ≤ k) : valT t k = val t.data.toList := by
  unfold valT
  rw [List.take_of_length_le (by exact h)]

theorem number_zero (t : ByteArray) (w : World) (hs : t.size ≤ maxLen) (h1 : 1 < t.size) (h0 : t[0].toNat = 48) :
    Calls Try.prog 86 #[.string t] w fun e w' => e = .returned (.tuple #[.int .i64 0, .int .i64 2]) ∧ w = w' := by
  unfold maxLen at hs
  have c1 : decide ((1 : Int) < (t.size : Int)) = true := by simp; omega
  have hi : (0 : Nat) < t.size := by omega
  have c2 : ((t[0].toNat : Int) == 48) = true := by simp; omega
  go_enter Try.func86, Try.ntmps86
  go_wp2_with fail
  go_ret2
  exact ⟨rfl, rfl⟩
theorem number_long (t : ByteArray) (w : World) (hs : t.size ≤ maxLen) (h1 : 9 < t.size) (h0 : ¬ t[0].toNat = 48) :
    Calls Try.prog 86 #[.string t] w fun e w' => e = .returned (.tuple #[.int .i64 0, .int .i64 4]) ∧ w = w' := by
  unfold maxLen at hs
  have c1 : decide ((1 : Int) < (t.size : Int)) = true := by simp; omega
  have c2 : ((t[0].toNat : Int) == 48) = false := by simp; omega
  have c3 : decide ((9 : Int) < (t.size : Int)) = true := by simp; omega
  go_enter Try.func86, Try.ntmps86
  go_wp2_with fail
  go_ret2
  exact ⟨rfl, rfl⟩
theorem number_good (t : ByteArray) (w : World) (hs : t.size ≤ 9) (h0 : ∀ h : 1 < t.size, ¬ t[0].toNat = 48) (hd : ∀ k (h : k < t.size), isDig t[k] = true) :
    Calls Try.prog 86 #[.string t] w fun e w' => e = .returned (.tuple #[.int .i64 (val t.data.toList : Nat), .int .i64 0]) ∧ w = w' := by
  have c3 : decide ((9 : Int) < (t.size : Int)) = false := by simp; omega
  have VS := Lib.hid (valT_small t hd hs)
  have VN := Lib.hid (valT_snoc t)
  have VE := Lib.hid (valT_end t)
  have HD := Lib.hid hd
  clear hd
  by_cases h1 : 1 < t.size
  · have c1 : decide ((1 : Int) < (t.size : Int)) = true := by simp; omega
    have c2 : ((t[0].toNat : Int) == 48) = false := by have := h0 h1; simp; omega
    clear h0
    go_enter Try.func86, Try.ntmps86
    go_wp2_with fail
    go_loop [4, 21] (fun n i => ∃ k : Nat, k ≤ t.size ∧ i = .int .i64 (k : Int) ∧ n = .int .i64 (valT t k : Nat)) (fun _ i => t.size - (intOf i).toNat)
    case atStart => exact ⟨0, by omega, rfl, rfl⟩
    case round =>
      obtain ⟨k, hk, rfl, rfl⟩ := hrel
      by_cases hlt : k < t.size
      · have hd2 : decide ((k : Int) < (t.size : Int)) = true := by simp; omega
        have hv := VS.out k hk
        have hb := dig_le (HD.out k hlt)
        have hx : ((t[k].toNat : Int) - 48) % 256 = (t[k].toNat : Int) - 48 := by omega
        go_wp2_with fail
        go_round
        case rel => exact ⟨k + 1, by omega, by go_num, by rw [VN.out k hlt]; go_num⟩
        case measure => simp [intOf]; omega
      · have hd2 : decide ((k : Int) < (t.size : Int)) = false := by simp; omega
        go_wp2_with fail
        go_ret2
        exact ⟨by rw [← VE.out k (by omega)]; rfl, rfl⟩
  · have c1 : decide ((1 : Int) < (t.size : Int)) = false := by simp; omega
    clear h0
    go_enter Try.func86, Try.ntmps86
    go_wp2_with fail
    go_loop [4, 21] (fun n i => ∃ k : Nat, k ≤ t.size ∧ i = .int .i64 (k : Int) ∧ n = .int .i64 (valT t k : Nat)) (fun _ i => t.size - (intOf i).toNat)
    case atStart => exact ⟨0, by omega, rfl, rfl⟩
    case round =>
      obtain ⟨k, hk, rfl, rfl⟩ := hrel
      by_cases hlt : k < t.size
      · have hd2 : decide ((k : Int) < (t.size : Int)) = true := by simp; omega
        have hv := VS.out k hk
        have hb := dig_le (HD.out k hlt)
        have hx : ((t[k].toNat : Int) - 48) % 256 = (t[k].toNat : Int) - 48 := by omega
        go_wp2_with fail
        go_round
        case rel => exact ⟨k + 1, by omega, by go_num, by rw [VN.out k hlt]; go_num⟩
        case measure => simp [intOf]; omega
      · have hd2 : decide ((k : Int) < (t.size : Int)) = false := by simp; omega
        go_wp2_with fail
        go_ret2
        exact ⟨by rw [← VE.out k (by omega)]; rfl, rfl⟩
end Lex
end Go.Proofs.Ytabkaaapkcadhaa
