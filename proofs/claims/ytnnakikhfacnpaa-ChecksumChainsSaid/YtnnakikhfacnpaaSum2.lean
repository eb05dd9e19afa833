/- Contracts of Update and CRC. -/
import Derived.Test.YtnnakikhfacnpaaSum1
namespace Go.Proofs.Ytnnakikhfacnpaa
open Go.ChangeShapes Go.WideShapes Go.ChangeAt Go.RowKit
namespace Sum

theorem band (x : Nat) (hx : x < 4294967296) : bits .and .u32 (x : Int) 15 = ((x % 16 : Nat) : Int) := by
  rw [show (15 : Int) = ((15 : Nat) : Int) from rfl, u32_and_nat x 15 hx (by omega), nat_mask4]
theorem bnib (x : Nat) (hx : x < 4294967296) : bits .xor .u32 ((x : Int) / 16) (tab (x % 16)) = ((stepN 4 x : Nat) : Int) := by
  rw [nibble x]
  exact bx32 (by omega) rfl (by omega) (stepN_lt 4 _ (by omega))
theorem not32 (c : Nat) (hc : c < 4294967296) : 4294967295 ^^^ c = 4294967295 - c := by
  apply Nat.eq_of_testBit_eq
  intro i
  rw [Nat.testBit_xor, show (4294967295 : Nat) = 2 ^ 32 - 1 from rfl, Nat.testBit_two_pow_sub_one, show 2 ^ 32 - 1 - c = 2 ^ 32 - (c + 1) by omega, Nat.testBit_two_pow_sub_succ hc]
  by_cases h : i < 32
  · simp [h]
  · have : c.testBit i = false := Nat.testBit_lt_two_pow (Nat.lt_of_lt_of_le hc (show 2 ^ 32 ≤ 2 ^ i from Nat.pow_le_pow_right (by decide) (by omega)))
    simp [h, this]
theorem bnot (c : Nat) (hc : c < 4294967296) : bits .xor .u32 IntKind.u32.max (c : Int) = ((4294967295 - c : Nat) : Int) := by
  rw [show IntKind.u32.max = ((4294967295 : Nat) : Int) from rfl, u32_xor_nat _ _ (by omega) hc, not32 c hc]
theorem ret_int {k : IntKind} {a b : Int} (h : a = b) : Ending.returned (.int k a) = .returned (.int k b) := by rw [h]
theorem take_snoc (s : ByteArray) (k : Nat) (h : k < s.size) : s.data.toList.take (k + 1) = s.data.toList.take k ++ [s[k]] := by
  rw [List.take_succ_eq_append_getElem (by simpa using h)]; rfl
theorem take_all (s : ByteArray) (k : Nat) (h : s.size ≤ k) : s.data.toList.take k = s.data.toList := List.take_of_length_le (by simpa using h)

/-- the register behind k bytes -/
def reg (c : Nat) (s : ByteArray) (k : Nat) : Nat := fold (4294967295 - c) (s.data.toList.take k)
theorem reg_lt (c : Nat) (s : ByteArray) (k : Nat) : reg c s k < 4294967296 := fold_lt _ (by omega)
theorem reg_snoc (c : Nat) (s : ByteArray) (k : Nat) (h : k < s.size) : reg c s (k + 1) = byteStep (reg c s k) s[k] := by
  unfold reg; rw [take_snoc s k h, fold_snoc]
theorem reg_end (c : Nat) (s : ByteArray) (k : Nat) (h : s.size ≤ k) : upd c s.data.toList = 4294967295 - reg c s k := by
  unfold reg upd; rw [take_all s k h]

set_option maxRecDepth 100000 in
theorem update_any (c : Nat) (s : ByteArray) (w : World) (hc : c < 4294967296) (hs : s.size ≤ maxLen) :
    Calls Try.prog 27 #[.int .u32 (c : Int), .string s] w fun e w' => e = .returned (.int .u32 (upd c s.data.toList : Nat)) ∧ Below w.heap.size w w' := by
  unfold maxLen at hs
  have NB := nibbles_any w
  unfold arr16 at NB
  have en := bnot c hc
  go_enter Try.func27, Try.ntmps27
  go_wp2_with fail
  refine NB.mono ?_
  clear NB
  rintro e w1 ⟨rfl, b1⟩
  have X1 := box16_new w1 tab 67
  have B1 := Lib.hid (b1.alloc b1.size (.cells (arr16 tab) 67))
  unfold arr16 at B1 X1
  clear b1
  go_wp2_with fail
  clear en
  generalize w1.heap.size = a at *
  generalize (w1.alloc _) = w2 at *
  have R0 : Hid (reg c s 0 = 4294967295 - c) := rfl
  have RS := Lib.hid (reg_snoc c s)
  have RE := Lib.hid (reg_end c s)
  have RL := Lib.hid (reg_lt c s)
  go_loop [6, 7] (fun x i => ∃ k : Nat, k ≤ s.size ∧ i = .int .i64 k ∧ x = .int .u32 (reg c s k : Nat)) (fun _ i => s.size - (intOf i).toNat)
  case atStart => exact ⟨0, by omega, rfl, by rw [R0.out]⟩
  case round =>
    obtain ⟨k, hk, rfl, rfl⟩ := hrel
    have hy := RL.out k
    have HY : Hid (reg c s k = reg c s k) := rfl
    generalize hyy : reg c s k = y at *
    have HYY := Lib.hid hyy
    clear hyy
    by_cases hlt : k < s.size
    · have hd : decide ((k : Int) < (s.size : Int)) = true := by simp; omega
      have e1 := bxb y s[k] hy
      have h1 := xorb_lt s[k] hy
      generalize hx1 : y ^^^ (s[k]).toNat = x1 at *
      have e2 := band x1 h1
      have e3 := bnib x1 h1
      have c1 := X1.cell (x1 % 16) (by omega)
      have h2 := stepN_lt 4 x1 h1
      have i1 : x1 % 16 < 16 := by omega
      have HX1 := Lib.hid hx1
      clear hx1
      generalize hx2 : stepN 4 x1 = x2 at *
      have e4 := band x2 h2
      have e5 := bnib x2 h2
      have c2 := X1.cell (x2 % 16) (by omega)
      have i2 : x2 % 16 < 16 := by omega
      have HX2 := Lib.hid hx2
      clear hx2
      go_wp2_with fail
      go_round
      case rel =>
        refine ⟨k + 1, by omega, by go_num, ?_⟩
        rw [RS.out k hlt, HYY.out, byteStep_nib, HX1.out, HX2.out]
      case measure => simp [intOf]; omega
    · have hd : decide ((k : Int) < (s.size : Int)) = false := by simp; omega
      have en := bnot y hy
      go_wp2_with fail
      go_ret
      exact ⟨ret_int (by rw [RE.out k (by omega), HYY.out]), B1.out⟩
theorem refUpdate_any (c : Nat) (s : ByteArray) (w : World) (hc : c < 4294967296) (hs : s.size ≤ maxLen) :
    Calls Try.prog 28 #[.int .u32 (c : Int), .string s] w fun e w' => e = .returned (.int .u32 (upd c s.data.toList : Nat)) ∧ w = w' := by
  unfold maxLen at hs
  go_enter Try.func28, Try.ntmps28
  go_wp2_with fail
  have R0 : Hid (reg c s 0 = 4294967295 - c) := rfl
  have RS := Lib.hid (reg_snoc c s)
  have RE := Lib.hid (reg_end c s)
  have RL := Lib.hid (reg_lt c s)
  go_loop [5, 6] (fun x i => ∃ k : Nat, k ≤ s.size ∧ i = .int .i64 k ∧ x = .int .u32 (reg c s k : Nat)) (fun _ i => s.size - (intOf i).toNat)
  case atStart => exact ⟨0, by omega, rfl, by rw [R0.out]; congr 1; omega⟩
  case round =>
    obtain ⟨k, hk, rfl, rfl⟩ := hrel
    have hy := RL.out k
    generalize hyy : reg c s k = y at *
    have HYY := Lib.hid hyy
    clear hyy
    by_cases hlt : k < s.size
    · have hd : decide ((k : Int) < (s.size : Int)) = true := by simp; omega
      go_wp2_with fail
      refine (step_any y s[k] _ hy).mono ?_
      rintro e w' ⟨rfl, rfl⟩
      go_wp2_with fail
      go_round
      case rel =>
        refine ⟨k + 1, by omega, by go_num, ?_⟩
        rw [RS.out k hlt, HYY.out]
      case measure => simp [intOf]; omega
    · have hd : decide ((k : Int) < (s.size : Int)) = false := by simp; omega
      go_wp2_with fail
      go_ret
      exact ⟨ret_int (by rw [RE.out k (by omega), HYY.out]; omega), rfl⟩
theorem crc_any (s : ByteArray) (w : World) (hs : s.size ≤ maxLen) :
    Calls Try.prog 25 #[.string s] w fun e w' => e = .returned (.int .u32 (upd 0 s.data.toList : Nat)) ∧ Below w.heap.size w w' := by
  go_enter Try.func25, Try.ntmps25
  go_wp2_with fail
  refine (update_any 0 s _ (by omega) hs).mono ?_
  rintro e w' ⟨rfl, hb⟩
  go_wp2_with fail
  go_ret
  exact ⟨rfl, hb⟩
theorem refCrc_any (s : ByteArray) (w : World) (hs : s.size ≤ maxLen) :
    Calls Try.prog 26 #[.string s] w fun e w' => e = .returned (.int .u32 (upd 0 s.data.toList : Nat)) ∧ w = w' := by
  go_enter Try.func26, Try.ntmps26
  go_wp2_with fail
  refine (refUpdate_any 0 s _ (by omega) hs).mono ?_
  rintro e w' ⟨rfl, rfl⟩
  go_wp2_with fail
  go_ret
  exact ⟨rfl, rfl⟩
end Sum
end Go.Proofs.Ytnnakikhfacnpaa
