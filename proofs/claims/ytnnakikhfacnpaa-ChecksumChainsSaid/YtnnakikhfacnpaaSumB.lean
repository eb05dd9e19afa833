/- The law that a changed byte is detected: walk. -/
import Derived.Test.YtnnakikhfacnpaaSumA
namespace Go.Proofs.Ytnnakikhfacnpaa
open Go.ChangeShapes Go.WideShapes Go.ChangeAt Go.RowKit
namespace Sum
theorem ofN (z : Nat) (h : z < 256) : (UInt8.ofNat z).toNat = z := by simp; omega
theorem whole (t : ByteArray) : (⟨t.data.toList.toArray⟩ : ByteArray) = t := by cases t; simp
theorem seal_size (s : ByteArray) : (sealS s).size = s.size + 4 := by unfold sealS; rw [size_append, lowS_size]; omega
theorem xor_byte (y : UInt8) (m : Nat) (hm : m < 256) : ∃ x : UInt8, bits .xor .u8 (y.toNat : Int) (m : Int) = (x.toNat : Int) ∧ (0 < m → y ≠ x) := by
  have hy := y.toNat_lt
  have hx : y.toNat ^^^ m < 256 := Nat.xor_lt_two_pow (n := 8) hy hm
  refine ⟨UInt8.ofNat (y.toNat ^^^ m), ?_, fun h0 e => ?_⟩
  · rw [u8_xor_nat _ _ hy hm]
    generalize y.toNat ^^^ m = z at *
    rw [ofN z hx]
  · have h1 := congrArg UInt8.toNat e
    have h2 : (UInt8.ofNat (y.toNat ^^^ m)).toNat = y.toNat ^^^ m := ofN _ hx
    rw [h2] at h1
    have h3 : y.toNat ^^^ 0 = y.toNat ^^^ m := by simpa using h1
    have := xor_cancel_left h3
    omega

theorem law_det_no (s : ByteArray) (a m : Int) (w : World) (hs : s.size ≤ maxLen) (h : ¬ s.size ≤ 6000) :
    Calls Try.prog 11 #[.string s, .int .i64 a, .int .u8 m] w fun e w' => e = .returned (.bool true) ∧ Below w.heap.size w w' := by
  have F : Hid (Ret 24 #[.string s] (.bool false)) := fun w => toB (few_no s w hs h)
  have AW : Hid (Ret 29 #[] (.bool true)) := awake_any
  go_enter Try.func11, Try.ntmps11
  go_wp2_with fail
  refine (F.out _).mono ?_
  rintro e w1 ⟨rfl, b1⟩
  have B1 := Lib.hid b1
  clear b1
  go_wp2_with fail
  refine (AW.out _).mono ?_
  rintro e w2 ⟨rfl, b2⟩
  have B2 := Lib.hid (chain0 B1.out b2)
  clear b2 B1
  go_wp2_with fail
  go_ret
  exact ⟨rfl, B2.out⟩


set_option maxHeartbeats 800000 in
theorem law_det_neg (s : ByteArray) (a m : Int) (w : World) (h : s.size ≤ 6000) (h1 : a < 0) :
    Calls Try.prog 11 #[.string s, .int .i64 a, .int .u8 m] w fun e w' => e = .returned (.bool true) ∧ Below w.heap.size w w' := by
  have d1 : decide (a < 0) = true := by simp; omega
  have F : Hid (Ret 24 #[.string s] (.bool true)) := fun w => toB (few_yes s w (by unfold maxLen; omega) h)
  have SL : Hid (Ret 32 #[.string s] (.string (sealS s))) := fun w => seal_any s w (by omega)
  have OP : Hid (Ret 30 #[.string (sealS s)] (.tuple #[.string s, .int .i64 0])) := by have := open_all (sealS s) (by have := seal_size s; omega); rw [opnV_seal] at this; exact this
  have AW : Hid (Ret 29 #[] (.bool true)) := awake_any
  have hz := seal_size s
  have hl : ((((sealS s).size : Nat) : Int) != (s.size : Int) + 4) = false := by simp; omega
  generalize sealS s = t at *
  have HZ := Lib.hid hz
  clear hz
  go_enter Try.func11, Try.ntmps11
  go_wp2_with fail
  refine (F.out _).mono ?_
  rintro e w1 ⟨rfl, b1⟩
  have B1 := Lib.hid b1
  clear b1
  go_wp2_with fail
  refine (SL.out _).mono ?_
  rintro e w2 ⟨rfl, b2⟩
  have B2 := Lib.hid (chain0 B1.out b2)
  clear b2 B1
  have hbs := (B2.out).size
  obtain ⟨cap, W3, hk, b3, BR, hlt⟩ := bytes_of w2 t
  have hcv : (convert 49 9 (.slice (some ⟨w2.heap.size, 0, none⟩) t.size cap)).run Try.prog W3 = .ok (.string t) W3 := by
    have := BR.back t.size cap (by simp)
    exact this
  have B3 := Lib.hid (chain0 B2.out b3)
  clear b3 B2
  generalize w2.heap.size = b at *
  go_wp2_with fail
  refine (OP.out _).mono ?_
  rintro e w4 ⟨rfl, b4⟩
  have BR4 := BR.below b4 hlt
  have B4 := Lib.hid (chain0 B3.out b4)
  have hlt4 : b < w4.heap.size := Nat.lt_of_lt_of_le hlt b4.size
  clear b4 B3 hcv hk BR hlt
  go_wp2_with fail
  refine (AW.out _).mono ?_
  rintro e w5 ⟨rfl, b5⟩
  have B5 := Lib.hid (chain0 B4.out b5)
  clear b5 B4
  go_wp2_with fail
  go_ret
  exact ⟨rfl, B5.out⟩

set_option maxHeartbeats 800000 in
theorem law_det_far (s : ByteArray) (a m : Int) (w : World) (h : s.size ≤ 6000) (h1 : 0 ≤ a) (h2 : (s.size : Int) + 4 ≤ a) :
    Calls Try.prog 11 #[.string s, .int .i64 a, .int .u8 m] w fun e w' => e = .returned (.bool true) ∧ Below w.heap.size w w' := by
  have d1 : decide (a < 0) = false := by simp; omega
  have d2 : decide (((sealS s).size : Int) ≤ a) = true := by have := seal_size s; simp; omega
  have F : Hid (Ret 24 #[.string s] (.bool true)) := fun w => toB (few_yes s w (by unfold maxLen; omega) h)
  have SL : Hid (Ret 32 #[.string s] (.string (sealS s))) := fun w => seal_any s w (by omega)
  have OP : Hid (Ret 30 #[.string (sealS s)] (.tuple #[.string s, .int .i64 0])) := by have := open_all (sealS s) (by have := seal_size s; omega); rw [opnV_seal] at this; exact this
  have AW : Hid (Ret 29 #[] (.bool true)) := awake_any
  have hz := seal_size s
  have hl : ((((sealS s).size : Nat) : Int) != (s.size : Int) + 4) = false := by simp; omega
  generalize sealS s = t at *
  have HZ := Lib.hid hz
  clear hz
  go_enter Try.func11, Try.ntmps11
  go_wp2_with fail
  refine (F.out _).mono ?_
  rintro e w1 ⟨rfl, b1⟩
  have B1 := Lib.hid b1
  clear b1
  go_wp2_with fail
  refine (SL.out _).mono ?_
  rintro e w2 ⟨rfl, b2⟩
  have B2 := Lib.hid (chain0 B1.out b2)
  clear b2 B1
  have hbs := (B2.out).size
  obtain ⟨cap, W3, hk, b3, BR, hlt⟩ := bytes_of w2 t
  have hcv : (convert 49 9 (.slice (some ⟨w2.heap.size, 0, none⟩) t.size cap)).run Try.prog W3 = .ok (.string t) W3 := by
    have := BR.back t.size cap (by simp)
    exact this
  have B3 := Lib.hid (chain0 B2.out b3)
  clear b3 B2
  generalize w2.heap.size = b at *
  go_wp2_with fail
  refine (OP.out _).mono ?_
  rintro e w4 ⟨rfl, b4⟩
  have BR4 := BR.below b4 hlt
  have B4 := Lib.hid (chain0 B3.out b4)
  have hlt4 : b < w4.heap.size := Nat.lt_of_lt_of_le hlt b4.size
  clear b4 B3 hcv hk BR hlt
  go_wp2_with fail
  refine (AW.out _).mono ?_
  rintro e w5 ⟨rfl, b5⟩
  have B5 := Lib.hid (chain0 B4.out b5)
  clear b5 B4
  go_wp2_with fail
  go_ret
  exact ⟨rfl, B5.out⟩

set_option maxHeartbeats 800000 in
theorem law_det_zero (s : ByteArray) (a m : Int) (w : World) (h : s.size ≤ 6000) (h1 : 0 ≤ a) (h2 : a < (s.size : Int) + 4) (h3 : m = 0) :
    Calls Try.prog 11 #[.string s, .int .i64 a, .int .u8 m] w fun e w' => e = .returned (.bool true) ∧ Below w.heap.size w w' := by
  have d1 : decide (a < 0) = false := by simp; omega
  have d2 : decide (((sealS s).size : Int) ≤ a) = false := by have := seal_size s; simp; omega
  have d3 : (m == 0) = true := by simp [h3]
  have F : Hid (Ret 24 #[.string s] (.bool true)) := fun w => toB (few_yes s w (by unfold maxLen; omega) h)
  have SL : Hid (Ret 32 #[.string s] (.string (sealS s))) := fun w => seal_any s w (by omega)
  have OP : Hid (Ret 30 #[.string (sealS s)] (.tuple #[.string s, .int .i64 0])) := by have := open_all (sealS s) (by have := seal_size s; omega); rw [opnV_seal] at this; exact this
  have AW : Hid (Ret 29 #[] (.bool true)) := awake_any
  have hz := seal_size s
  have hl : ((((sealS s).size : Nat) : Int) != (s.size : Int) + 4) = false := by simp; omega
  generalize sealS s = t at *
  have HZ := Lib.hid hz
  clear hz
  go_enter Try.func11, Try.ntmps11
  go_wp2_with fail
  refine (F.out _).mono ?_
  rintro e w1 ⟨rfl, b1⟩
  have B1 := Lib.hid b1
  clear b1
  go_wp2_with fail
  refine (SL.out _).mono ?_
  rintro e w2 ⟨rfl, b2⟩
  have B2 := Lib.hid (chain0 B1.out b2)
  clear b2 B1
  have hbs := (B2.out).size
  obtain ⟨cap, W3, hk, b3, BR, hlt⟩ := bytes_of w2 t
  have hcv : (convert 49 9 (.slice (some ⟨w2.heap.size, 0, none⟩) t.size cap)).run Try.prog W3 = .ok (.string t) W3 := by
    have := BR.back t.size cap (by simp)
    exact this
  have B3 := Lib.hid (chain0 B2.out b3)
  clear b3 B2
  generalize w2.heap.size = b at *
  go_wp2_with fail
  refine (OP.out _).mono ?_
  rintro e w4 ⟨rfl, b4⟩
  have BR4 := BR.below b4 hlt
  have B4 := Lib.hid (chain0 B3.out b4)
  have hlt4 : b < w4.heap.size := Nat.lt_of_lt_of_le hlt b4.size
  clear b4 B3 hcv hk BR hlt
  go_wp2_with fail
  refine (AW.out _).mono ?_
  rintro e w5 ⟨rfl, b5⟩
  have B5 := Lib.hid (chain0 B4.out b5)
  clear b5 B4
  go_wp2_with fail
  go_ret
  exact ⟨rfl, B5.out⟩

set_option maxHeartbeats 800000 in
theorem law_det_main (s : ByteArray) (k m : Nat) (w : World) (h : s.size ≤ 6000) (h2 : k < s.size + 4) (h3 : 0 < m) (h4 : m < 256) :
    Calls Try.prog 11 #[.string s, .int .i64 (k : Int), .int .u8 (m : Int)] w fun e w' => e = .returned (.bool true) ∧ Below w.heap.size w w' := by
  have d1 : decide ((k : Int) < 0) = false := by simp
  have d2 : decide (((sealS s).size : Int) ≤ (k : Int)) = false := by have := seal_size s; simp; omega
  have d3 : ((m : Int) == 0) = false := by simp; omega
  have hkt : k < (sealS s).data.toList.length := by have := seal_size s; simp; omega
  obtain ⟨x, ex, hne⟩ := xor_byte ((sealS s).data.toList[k]) m h4
  have O2 : Hid (Ret 30 #[.string (chg (sealS s) k x)] (.tuple #[.string ⟨#[]⟩, .int .i64 11])) := by
    have := open_all (chg (sealS s) k x) (by rw [chg_size, seal_size]; omega)
    rw [opnV_chg s k (by simpa using hkt) x (hne h3)] at this
    exact this
  clear hne
  have F : Hid (Ret 24 #[.string s] (.bool true)) := fun w => toB (few_yes s w (by unfold maxLen; omega) h)
  have SL : Hid (Ret 32 #[.string s] (.string (sealS s))) := fun w => seal_any s w (by omega)
  have OP : Hid (Ret 30 #[.string (sealS s)] (.tuple #[.string s, .int .i64 0])) := by have := open_all (sealS s) (by have := seal_size s; omega); rw [opnV_seal] at this; exact this
  have AW : Hid (Ret 29 #[] (.bool true)) := awake_any
  have hz := seal_size s
  have hl : ((((sealS s).size : Nat) : Int) != (s.size : Int) + 4) = false := by simp; omega
  generalize sealS s = t at *
  have HZ := Lib.hid hz
  clear hz
  go_enter Try.func11, Try.ntmps11
  go_wp2_with fail
  refine (F.out _).mono ?_
  rintro e w1 ⟨rfl, b1⟩
  have B1 := Lib.hid b1
  clear b1
  go_wp2_with fail
  refine (SL.out _).mono ?_
  rintro e w2 ⟨rfl, b2⟩
  have B2 := Lib.hid (chain0 B1.out b2)
  clear b2 B1
  have hbs := (B2.out).size
  obtain ⟨cap, W3, hk, b3, BR, hlt⟩ := bytes_of w2 t
  have hcv : (convert 49 9 (.slice (some ⟨w2.heap.size, 0, none⟩) t.size cap)).run Try.prog W3 = .ok (.string t) W3 := by
    have := BR.back t.size cap (by simp)
    exact this
  have B3 := Lib.hid (chain0 B2.out b3)
  clear b3 B2
  generalize w2.heap.size = b at *
  go_wp2_with fail
  refine (OP.out _).mono ?_
  rintro e w4 ⟨rfl, b4⟩
  have BR4 := BR.below b4 hlt
  have B4 := Lib.hid (chain0 B3.out b4)
  have hlt4 : b < w4.heap.size := Nat.lt_of_lt_of_le hlt b4.size
  clear b4 B3 hcv hk BR hlt
  have ck := BR4.cell k hkt
  have cf := BR4.free k hkt
  have hb5 : BRow (w4.setCell ⟨b, k, none⟩ (.int .u8 (x.toNat : Int))) b (t.data.toList.set k x) := BR4.set k hkt x _ rfl
  have hcv2 : (convert 49 9 (.slice (some ⟨b, 0, none⟩) t.size cap)).run Try.prog (w4.setCell ⟨b, k, none⟩ (.int .u8 (x.toNat : Int))) = .ok (.string (chg t k x)) (w4.setCell ⟨b, k, none⟩ (.int .u8 (x.toNat : Int))) := hb5.back t.size cap (by simp)
  have B5 := Lib.hid ((B4.out).setCell (p := ⟨b, k, none⟩) (by show w.heap.size ≤ b; omega) (.int .u8 (x.toNat : Int)))
  clear B4 BR4 hb5
  generalize t.data.toList[k] = y at *
  have hkt2 : (k : Int) < (t.size : Int) := by have := HZ.out; omega
  generalize chg t k x = t2 at *
  go_wp2_with fail
  refine (O2.out _).mono ?_
  rintro e w6 ⟨rfl, b6⟩
  have B6 := Lib.hid (chain0 B5.out b6)
  clear b6 B5
  go_wp2_with fail
  refine (AW.out _).mono ?_
  rintro e w7 ⟨rfl, b7⟩
  have B7 := Lib.hid (chain0 B6.out b7)
  clear b7 B6
  go_wp2_with fail
  go_ret
  exact ⟨rfl, B7.out⟩

theorem law_det (s : ByteArray) (a m : Int) (w : World) (hs : s.size ≤ maxLen) (h0 : 0 ≤ m) (h1 : m < 256) :
    Calls Try.prog 11 #[.string s, .int .i64 a, .int .u8 m] w fun e w' => e = .returned (.bool true) ∧ Below w.heap.size w w' := by
  by_cases h : s.size ≤ 6000
  · by_cases ha : a < 0
    · exact law_det_neg s a m w h ha
    · by_cases hb : (s.size : Int) + 4 ≤ a
      · exact law_det_far s a m w h (by omega) hb
      · by_cases hm : m = 0
        · exact law_det_zero s a m w h (by omega) (by omega) hm
        · obtain ⟨k, rfl⟩ := Int.eq_ofNat_of_zero_le (show 0 ≤ a by omega)
          obtain ⟨n, rfl⟩ := Int.eq_ofNat_of_zero_le h0
          exact law_det_main s k n w h (by omega) (by omega) (by omega)
  · exact law_det_no s a m w hs h
end Sum
end Go.Proofs.Ytnnakikhfacnpaa
