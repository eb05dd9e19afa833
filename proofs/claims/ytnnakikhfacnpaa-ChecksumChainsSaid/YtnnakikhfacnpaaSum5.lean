/- Contracts of Hex and Unhex. -/
import Derived.Test.YtnnakikhfacnpaaSum4
import Derived.Test.YtnnakikhfacnpaaHexNum
import Derived.Laws.RangeAny
namespace Go.Proofs.Ytnnakikhfacnpaa
open Go.ChangeShapes Go.WideShapes Go.ChangeAt Go.RowKit
attribute [local go_sem] later_cell
namespace Sum
def hexI (d : Nat) : Int := (hexb d).toNat
theorem idx_digit (d : Nat) (h : d < 16) (w : World) : (Instr.index 9 (.string ⟨#[48, 49, 50, 51, 52, 53, 54, 55, 56, 57, 97, 98, 99, 100, 101, 102]⟩) (.int .u64 (d : Int))).run Try.prog w = .ok (.int .u8 (hexI d)) w := by
  rcases lt16 h with rfl | rfl | rfl | rfl | rfl | rfl | rfl | rfl | rfl | rfl | rfl | rfl | rfl | rfl | rfl | rfl
  all_goals kernel_rfl
theorem idx_digit_i (d : Nat) (h : d < 16) (w : World) : (Instr.index 9 (.string ⟨#[48, 49, 50, 51, 52, 53, 54, 55, 56, 57, 97, 98, 99, 100, 101, 102]⟩) (.int .i64 (d : Int))).run Try.prog w = .ok (.int .u8 (hexI d)) w := by
  rcases lt16 h with rfl | rfl | rfl | rfl | rfl | rfl | rfl | rfl | rfl | rfl | rfl | rfl | rfl | rfl | rfl | rfl
  all_goals kernel_rfl
theorem cut_digit (d : Nat) (h : d < 16) (w : World) : (Instr.slice 9 (.string ⟨#[48, 49, 50, 51, 52, 53, 54, 55, 56, 57, 97, 98, 99, 100, 101, 102]⟩) (some (.int .i64 (d : Int))) (some (.int .i64 ((d : Int) + 1))) none).run Try.prog w = .ok (.string ⟨#[hexb d]⟩) w := by
  rcases lt16 h with rfl | rfl | rfl | rfl | rfl | rfl | rfl | rfl | rfl | rfl | rfl | rfl | rfl | rfl | rfl | rfl
  all_goals kernel_rfl
theorem and64 (x e : Nat) (hx : x < 18446744073709551616) (q : Int) (hq : q = ((x / e : Nat) : Int)) : bits .and .u64 q 15 = ((x / e % 16 : Nat) : Int) := by
  have h : x / e ≤ x := Nat.div_le_self _ _
  rw [hq, show (15 : Int) = ((15 : Nat) : Int) from rfl, u64_and_nat _ 15 (by omega) (by omega), nat_mask4]
def hexS (x : Nat) : ByteArray := ⟨(hexL x 16).toArray⟩

set_option maxHeartbeats 1600000 in
theorem hex_any (x : Nat) (w : World) (hx : x < 18446744073709551616) :
    Calls Try.prog 35 #[.int .u64 (x : Int)] w fun e w' => e = .returned (.string (hexS x)) ∧ Below w.heap.size w w' := by
  have hmk : ∀ w, (Instr.makeSlice 49 (.int .i64 16) (.int .i64 16)).run Try.prog w = .ok (.slice (some ⟨w.heap.size, 0, none⟩) 16 16) (w.alloc (.cells #[.int .u8 0, .int .u8 0, .int .u8 0, .int .u8 0, .int .u8 0, .int .u8 0, .int .u8 0, .int .u8 0, .int .u8 0, .int .u8 0, .int .u8 0, .int .u8 0, .int .u8 0, .int .u8 0, .int .u8 0, .int .u8 0] 5)) := fun _ => by kernel_rfl
  have HL : Hid (hexL x 16 = [hexb (x / 16 ^ 15 % 16), hexb (x / 16 ^ 14 % 16), hexb (x / 16 ^ 13 % 16), hexb (x / 16 ^ 12 % 16), hexb (x / 16 ^ 11 % 16), hexb (x / 16 ^ 10 % 16), hexb (x / 16 ^ 9 % 16), hexb (x / 16 ^ 8 % 16), hexb (x / 16 ^ 7 % 16), hexb (x / 16 ^ 6 % 16), hexb (x / 16 ^ 5 % 16), hexb (x / 16 ^ 4 % 16), hexb (x / 16 ^ 3 % 16), hexb (x / 16 ^ 2 % 16), hexb (x / 16 ^ 1 % 16), hexb (x / 16 ^ 0 % 16)]) := rfl
  have e0 := and64 x (16 ^ 15) hx ((x : Int) / 1152921504606846976) (by rw [show (16 : Nat) ^ 15 = 1152921504606846976 from rfl]; omega)
  have i0 := idx_digit (x / 16 ^ 15 % 16) (Nat.mod_lt _ (by decide))
  generalize x / 16 ^ 15 % 16 = d0 at *
  have e1 := and64 x (16 ^ 14) hx ((x : Int) / 72057594037927936) (by rw [show (16 : Nat) ^ 14 = 72057594037927936 from rfl]; omega)
  have i1 := idx_digit (x / 16 ^ 14 % 16) (Nat.mod_lt _ (by decide))
  generalize x / 16 ^ 14 % 16 = d1 at *
  have e2 := and64 x (16 ^ 13) hx ((x : Int) / 4503599627370496) (by rw [show (16 : Nat) ^ 13 = 4503599627370496 from rfl]; omega)
  have i2 := idx_digit (x / 16 ^ 13 % 16) (Nat.mod_lt _ (by decide))
  generalize x / 16 ^ 13 % 16 = d2 at *
  have e3 := and64 x (16 ^ 12) hx ((x : Int) / 281474976710656) (by rw [show (16 : Nat) ^ 12 = 281474976710656 from rfl]; omega)
  have i3 := idx_digit (x / 16 ^ 12 % 16) (Nat.mod_lt _ (by decide))
  generalize x / 16 ^ 12 % 16 = d3 at *
  have e4 := and64 x (16 ^ 11) hx ((x : Int) / 17592186044416) (by rw [show (16 : Nat) ^ 11 = 17592186044416 from rfl]; omega)
  have i4 := idx_digit (x / 16 ^ 11 % 16) (Nat.mod_lt _ (by decide))
  generalize x / 16 ^ 11 % 16 = d4 at *
  have e5 := and64 x (16 ^ 10) hx ((x : Int) / 1099511627776) (by rw [show (16 : Nat) ^ 10 = 1099511627776 from rfl]; omega)
  have i5 := idx_digit (x / 16 ^ 10 % 16) (Nat.mod_lt _ (by decide))
  generalize x / 16 ^ 10 % 16 = d5 at *
  have e6 := and64 x (16 ^ 9) hx ((x : Int) / 68719476736) (by rw [show (16 : Nat) ^ 9 = 68719476736 from rfl]; omega)
  have i6 := idx_digit (x / 16 ^ 9 % 16) (Nat.mod_lt _ (by decide))
  generalize x / 16 ^ 9 % 16 = d6 at *
  have e7 := and64 x (16 ^ 8) hx ((x : Int) / 4294967296) (by rw [show (16 : Nat) ^ 8 = 4294967296 from rfl]; omega)
  have i7 := idx_digit (x / 16 ^ 8 % 16) (Nat.mod_lt _ (by decide))
  generalize x / 16 ^ 8 % 16 = d7 at *
  have e8 := and64 x (16 ^ 7) hx ((x : Int) / 268435456) (by rw [show (16 : Nat) ^ 7 = 268435456 from rfl]; omega)
  have i8 := idx_digit (x / 16 ^ 7 % 16) (Nat.mod_lt _ (by decide))
  generalize x / 16 ^ 7 % 16 = d8 at *
  have e9 := and64 x (16 ^ 6) hx ((x : Int) / 16777216) (by rw [show (16 : Nat) ^ 6 = 16777216 from rfl]; omega)
  have i9 := idx_digit (x / 16 ^ 6 % 16) (Nat.mod_lt _ (by decide))
  generalize x / 16 ^ 6 % 16 = d9 at *
  have e10 := and64 x (16 ^ 5) hx ((x : Int) / 1048576) (by rw [show (16 : Nat) ^ 5 = 1048576 from rfl]; omega)
  have i10 := idx_digit (x / 16 ^ 5 % 16) (Nat.mod_lt _ (by decide))
  generalize x / 16 ^ 5 % 16 = d10 at *
  have e11 := and64 x (16 ^ 4) hx ((x : Int) / 65536) (by rw [show (16 : Nat) ^ 4 = 65536 from rfl]; omega)
  have i11 := idx_digit (x / 16 ^ 4 % 16) (Nat.mod_lt _ (by decide))
  generalize x / 16 ^ 4 % 16 = d11 at *
  have e12 := and64 x (16 ^ 3) hx ((x : Int) / 4096) (by rw [show (16 : Nat) ^ 3 = 4096 from rfl]; omega)
  have i12 := idx_digit (x / 16 ^ 3 % 16) (Nat.mod_lt _ (by decide))
  generalize x / 16 ^ 3 % 16 = d12 at *
  have e13 := and64 x (16 ^ 2) hx ((x : Int) / 256) (by rw [show (16 : Nat) ^ 2 = 256 from rfl]; omega)
  have i13 := idx_digit (x / 16 ^ 2 % 16) (Nat.mod_lt _ (by decide))
  generalize x / 16 ^ 2 % 16 = d13 at *
  have e14 := and64 x (16 ^ 1) hx ((x : Int) / 16) (by rw [show (16 : Nat) ^ 1 = 16 from rfl]; omega)
  have i14 := idx_digit (x / 16 ^ 1 % 16) (Nat.mod_lt _ (by decide))
  generalize x / 16 ^ 1 % 16 = d14 at *
  have e15 := and64 x (16 ^ 0) hx ((x : Int)) (by rw [show (16 : Nat) ^ 0 = 1 from rfl]; omega)
  have i15 := idx_digit (x / 16 ^ 0 % 16) (Nat.mod_lt _ (by decide))
  generalize x / 16 ^ 0 % 16 = d15 at *
  clear hx
  have HC := Lib.hid (fun w => conv_new w [hexI d0, hexI d1, hexI d2, hexI d3, hexI d4, hexI d5, hexI d6, hexI d7, hexI d8, hexI d9, hexI d10, hexI d11, hexI d12, hexI d13, hexI d14, hexI d15])
  go_enter Try.func35, Try.ntmps35
  go_wp2_with fail
  refine wp_loop_rounds 17 ?_
  iterate 16 (rw [rounds_succ]; go_wp2_with fail)
  have hc : (convert 49 9 (.slice (some ⟨w.heap.size, 0, none⟩) 16 16)).run Try.prog (w.alloc (.cells #[.int .u8 (hexI d0), .int .u8 (hexI d1), .int .u8 (hexI d2), .int .u8 (hexI d3), .int .u8 (hexI d4), .int .u8 (hexI d5), .int .u8 (hexI d6), .int .u8 (hexI d7), .int .u8 (hexI d8), .int .u8 (hexI d9), .int .u8 (hexI d10), .int .u8 (hexI d11), .int .u8 (hexI d12), .int .u8 (hexI d13), .int .u8 (hexI d14), .int .u8 (hexI d15)] 5)) = .ok (.string (strOfNums [hexI d0, hexI d1, hexI d2, hexI d3, hexI d4, hexI d5, hexI d6, hexI d7, hexI d8, hexI d9, hexI d10, hexI d11, hexI d12, hexI d13, hexI d14, hexI d15])) (w.alloc (.cells #[.int .u8 (hexI d0), .int .u8 (hexI d1), .int .u8 (hexI d2), .int .u8 (hexI d3), .int .u8 (hexI d4), .int .u8 (hexI d5), .int .u8 (hexI d6), .int .u8 (hexI d7), .int .u8 (hexI d8), .int .u8 (hexI d9), .int .u8 (hexI d10), .int .u8 (hexI d11), .int .u8 (hexI d12), .int .u8 (hexI d13), .int .u8 (hexI d14), .int .u8 (hexI d15)] 5)) := HC.out w
  clear e0 i0 e1 i1 e2 i2 e3 i3 e4 i4 e5 i5 e6 i6 e7 i7 e8 i8 e9 i9 e10 i10 e11 i11 e12 i12 e13 i13 e14 i14 e15 i15
  rw [rounds_succ]
  go_wp2_with fail
  go_ret
  refine ⟨?_, by go_grown⟩
  have e : strOfNums [hexI d0, hexI d1, hexI d2, hexI d3, hexI d4, hexI d5, hexI d6, hexI d7, hexI d8, hexI d9, hexI d10, hexI d11, hexI d12, hexI d13, hexI d14, hexI d15] = hexS x := by
    unfold hexS
    rw [HL.out]
    unfold strOfNums hexI
    simp
  rw [← e]
  rfl

theorem hexL_succ (x k : Nat) : hexL x (k + 1) = hexb (x / 16 ^ k % 16) :: hexL x k := rfl
theorem refHex_any (x : Nat) (w : World) (hx : x < 18446744073709551616) :
    Calls Try.prog 37 #[.int .u64 (x : Int)] w fun e w' => e = .returned (.string (hexS x)) ∧ Below w.heap.size w w' := by
  have HX := Lib.hid hx
  have CD := Lib.hid cut_digit
  clear hx
  go_enter Try.func37, Try.ntmps37
  go_wp2_with fail
  go_loop [0, 3, 4] (fun n t i => ∃ k : Nat, k ≤ 16 ∧ i = .int .i64 k ∧ n = .int .u64 (x / 16 ^ k : Nat) ∧ t = .string ⟨(hexL x k).toArray⟩) (fun _ _ i => 16 - (intOf i).toNat)
  case atStart => exact ⟨0, by omega, rfl, by simp, rfl⟩
  case round =>
    obtain ⟨k, hk, rfl, rfl, rfl⟩ := hrel
    by_cases hlt : k < 16
    · have hd : decide ((k : Int) < 16) = true := by simp; omega
      have hq : x / 16 ^ k / 16 = x / 16 ^ (k + 1) := by rw [Nat.div_div_eq_div_mul, Nat.pow_succ]
      have HQ := Lib.hid hq
      have HY := Lib.hid (show x / 16 ^ k ≤ x from Nat.div_le_self _ _)
      have HS := Lib.hid (hexL_succ x k)
      have hlen := hexL_length x k
      clear hq
      generalize x / 16 ^ k = y at *
      have hcd := CD.out (y % 16) (by omega)
      have hm : (y : Int) % 16 = ((y % 16 : Nat) : Int) := by omega
      have hm2 : y % 16 < 16 := by omega
      generalize y % 16 = d at *
      generalize hexL x k = l at *
      have hs1 : (⟨#[hexb d]⟩ : ByteArray).size = 1 := rfl
      have hs2 : (⟨l.toArray⟩ : ByteArray).size = k := by simp [ByteArray.size, hlen]
      have happ : (⟨#[hexb d]⟩ : ByteArray) ++ ⟨l.toArray⟩ = ⟨(hexb d :: l).toArray⟩ := by
        rw [ByteArray.mk_append_mk]; simp
      have HA := Lib.hid happ
      clear happ
      generalize (⟨#[hexb d]⟩ : ByteArray) = t1 at *
      generalize (⟨l.toArray⟩ : ByteArray) = t0 at *
      have hsz : ¬ 9223372036854775807 < t1.size + t0.size := by omega
      go_wp2_with fail
      go_round
      case rel => exact ⟨k + 1, by omega, by go_num, by rw [← HQ.out, IntKind.wrap_u64]; congr 1; have := HY.out; have := HX.out; omega, by rw [HA.out, HS.out]⟩
      case measure => simp [intOf]; omega
    · have hd : decide ((k : Int) < 16) = false := by simp; omega
      obtain rfl : k = 16 := by omega
      go_wp2_with fail
      go_ret
      exact ⟨rfl, Below.refl _ _⟩
end Sum
end Go.Proofs.Ytnnakikhfacnpaa
