/- The examples of the chapter checksum. -/
import Derived.Test.YtnnakikhfacnpaaSum7
namespace Go.Proofs.Ytnnakikhfacnpaa
open Go.ChangeShapes Go.WideShapes Go.ChangeAt Go.RowKit
attribute [local go_sem] later_cell
namespace Sum
theorem few_any (s : ByteArray) (w : World) (_hs : s.size ≤ maxLen) : Calls Try.prog 24 #[.string s] w fun e w' => e = .returned (.bool (decide ((s.size : Int) ≤ 6000))) ∧ w = w' := by
  unfold maxLen at _hs
  go_enter Try.func24, Try.ntmps24
  go_wp2
  go_ret
  exact ⟨rfl, rfl⟩
theorem few_yes (s : ByteArray) (w : World) (hs : s.size ≤ maxLen) (h : s.size ≤ 6000) : Calls Try.prog 24 #[.string s] w fun e w' => e = .returned (.bool true) ∧ w = w' := by
  have e : decide ((s.size : Int) ≤ 6000) = true := by simp; omega
  rw [← e]; exact few_any s w hs
theorem few_no (s : ByteArray) (w : World) (hs : s.size ≤ maxLen) (h : ¬ s.size ≤ 6000) : Calls Try.prog 24 #[.string s] w fun e w' => e = .returned (.bool false) ∧ w = w' := by
  have e : decide ((s.size : Int) ≤ 6000) = false := by simp; omega
  rw [← e]; exact few_any s w hs
theorem aw1 (w : World) : Calls Try.prog 30 #[.string ⟨#[0, 0, 0, 0]⟩] w fun e w' => e = .returned (.tuple #[.string ⟨#[]⟩, .int .i64 0]) ∧ Below w.heap.size w w' := by
  have e : (⟨#[0, 0, 0, 0]⟩ : ByteArray).extract 4 (⟨#[0, 0, 0, 0]⟩ : ByteArray).size = ⟨#[]⟩ := by decide +kernel
  have h := open_ok (⟨#[0, 0, 0, 0]⟩ : ByteArray) w (by decide) (by decide) (by decide +kernel)
  rw [e] at h
  exact h
theorem aw2 (w : World) : Calls Try.prog 30 #[.string ⟨#[0, 0, 0, 1]⟩] w fun e w' => e = .returned (.tuple #[.string ⟨#[]⟩, .int .i64 11]) ∧ Below w.heap.size w w' := by
  exact open_bad (⟨#[0, 0, 0, 1]⟩ : ByteArray) w (by decide) (by decide) (by decide +kernel)
theorem aw3 (w : World) : Calls Try.prog 30 #[.string ⟨#[97, 98, 99]⟩] w fun e w' => e = .returned (.tuple #[.string ⟨#[]⟩, .int .i64 1]) ∧ Below w.heap.size w w' := by
  exact open_short (⟨#[97, 98, 99]⟩ : ByteArray) w (by decide)
theorem aw4 (w : World) : Calls Try.prog 34 #[.string ⟨#[48, 48, 48, 48, 48, 48, 48, 48, 48, 48, 48, 48, 48, 48, 102, 102]⟩] w fun e w' => e = .returned (.tuple #[.int .u64 255, .int .i64 0]) ∧ Below w.heap.size w w' := by
  have e : unhV (⟨#[48, 48, 48, 48, 48, 48, 48, 48, 48, 48, 48, 48, 48, 48, 102, 102]⟩ : ByteArray) = (255, 0) := by decide +kernel
  have h := unhex_all (⟨#[48, 48, 48, 48, 48, 48, 48, 48, 48, 48, 48, 48, 48, 48, 102, 102]⟩ : ByteArray) w
  rw [e] at h
  exact h
theorem aw5 (w : World) : Calls Try.prog 34 #[.string ⟨#[48, 48, 48, 48, 48, 48, 48, 48, 48, 48, 48, 48, 48, 48, 70, 70]⟩] w fun e w' => e = .returned (.tuple #[.int .u64 0, .int .i64 2]) ∧ Below w.heap.size w w' := by
  have e : unhV (⟨#[48, 48, 48, 48, 48, 48, 48, 48, 48, 48, 48, 48, 48, 48, 70, 70]⟩ : ByteArray) = (0, 2) := by decide +kernel
  have h := unhex_all (⟨#[48, 48, 48, 48, 48, 48, 48, 48, 48, 48, 48, 48, 48, 48, 70, 70]⟩ : ByteArray) w
  rw [e] at h
  exact h
theorem aw6 (w : World) : Calls Try.prog 25 #[.string ⟨#[49, 50, 51, 52, 53, 54, 55, 56, 57]⟩] w fun e w' => e = .returned (.int .u32 3808858755) ∧ Below w.heap.size w w' := by
  have e : upd 0 (⟨#[49, 50, 51, 52, 53, 54, 55, 56, 57]⟩ : ByteArray).data.toList = 3808858755 := by decide +kernel
  have h := crc_any (⟨#[49, 50, 51, 52, 53, 54, 55, 56, 57]⟩ : ByteArray) w (by unfold maxLen; decide)
  rw [e] at h
  exact h
theorem aw7 (w : World) : Calls Try.prog 25 #[.string ⟨#[49, 50, 51]⟩] w fun e w' => e = .returned (.int .u32 (upd 0 [49, 50, 51] : Nat)) ∧ Below w.heap.size w w' := by
  exact crc_any (⟨#[49, 50, 51]⟩ : ByteArray) w (by unfold maxLen; decide)
theorem aw8 (w : World) : Calls Try.prog 27 #[.int .u32 (upd 0 [49, 50, 51] : Nat), .string ⟨#[52, 53, 54, 55, 56, 57]⟩] w fun e w' => e = .returned (.int .u32 3808858755) ∧ Below w.heap.size w w' := by
  have e : upd (upd 0 [49, 50, 51]) (⟨#[52, 53, 54, 55, 56, 57]⟩ : ByteArray).data.toList = 3808858755 := by decide +kernel
  have h := update_any (upd 0 [49, 50, 51]) (⟨#[52, 53, 54, 55, 56, 57]⟩ : ByteArray) w (upd_lt _ _) (by unfold maxLen; decide)
  rw [e] at h
  exact h
theorem aw9 (w : World) : Calls Try.prog 38 #[.string ⟨#[97]⟩] w fun e w' => e = .returned (.int .u64 12638187200555641996) ∧ Below w.heap.size w w' := by
  have e : fnv 14695981039346656037 (⟨#[97]⟩ : ByteArray).data.toList = 12638187200555641996 := by decide +kernel
  have h := hash_any (⟨#[97]⟩ : ByteArray) w (by unfold maxLen; decide)
  rw [e] at h
  exact h.mono fun _ _ ⟨h1, h2⟩ => ⟨h1, by rw [← h2]; exact Below.refl _ _⟩
theorem aw10 (w : World) : Calls Try.prog 35 #[.int .u64 255] w fun e w' => e = .returned (.string ⟨#[48, 48, 48, 48, 48, 48, 48, 48, 48, 48, 48, 48, 48, 48, 102, 102]⟩) ∧ Below w.heap.size w w' := by
  have e : hexS 255 = (⟨#[48, 48, 48, 48, 48, 48, 48, 48, 48, 48, 48, 48, 48, 48, 102, 102]⟩ : ByteArray) := by decide +kernel
  have h := hex_any 255 w (by omega)
  rw [e] at h
  exact h
theorem aw11 (w : World) : Calls Try.prog 32 #[.string ⟨#[49, 50, 51, 52, 53, 54, 55, 56, 57]⟩] w fun e w' => e = .returned (.string ⟨#[131, 146, 6, 227, 49, 50, 51, 52, 53, 54, 55, 56, 57]⟩) ∧ Below w.heap.size w w' := by
  have e : sealS (⟨#[49, 50, 51, 52, 53, 54, 55, 56, 57]⟩ : ByteArray) = (⟨#[131, 146, 6, 227, 49, 50, 51, 52, 53, 54, 55, 56, 57]⟩ : ByteArray) := by decide +kernel
  have h := seal_any (⟨#[49, 50, 51, 52, 53, 54, 55, 56, 57]⟩ : ByteArray) w (by decide)
  rw [e] at h
  exact h

set_option maxHeartbeats 800000 in
theorem awake_any (w : World) : Calls Try.prog 29 #[] w fun e w' => e = .returned (.bool true) ∧ Below w.heap.size w w' := by
  have H7 : Hid (∀ w, Calls Try.prog 25 #[.string ⟨#[49, 50, 51]⟩] w fun e w' => e = .returned (.int .u32 (upd 0 [49, 50, 51] : Nat)) ∧ Below w.heap.size w w') := aw7
  have H8 : Hid (∀ w, Calls Try.prog 27 #[.int .u32 (upd 0 [49, 50, 51] : Nat), .string ⟨#[52, 53, 54, 55, 56, 57]⟩] w fun e w' => e = .returned (.int .u32 3808858755) ∧ Below w.heap.size w w') := aw8
  generalize upd 0 [49, 50, 51] = y at *
  go_enter Try.func29, Try.ntmps29
  go_wp2_with fail
  refine (aw1 _).mono ?_
  rintro e w1 ⟨rfl, b1⟩
  have B1 := Lib.hid b1
  clear b1
  go_wp2_with fail
  refine (aw2 _).mono ?_
  rintro e w2 ⟨rfl, b2⟩
  have B2 := Lib.hid (chain0 B1.out b2)
  clear b2 B1
  go_wp2_with fail
  refine (aw3 _).mono ?_
  rintro e w3 ⟨rfl, b3⟩
  have B3 := Lib.hid (chain0 B2.out b3)
  clear b3 B2
  go_wp2_with fail
  refine (aw4 _).mono ?_
  rintro e w4 ⟨rfl, b4⟩
  have B4 := Lib.hid (chain0 B3.out b4)
  clear b4 B3
  go_wp2_with fail
  refine (aw5 _).mono ?_
  rintro e w5 ⟨rfl, b5⟩
  have B5 := Lib.hid (chain0 B4.out b5)
  clear b5 B4
  go_wp2_with fail
  refine (aw6 _).mono ?_
  rintro e w6 ⟨rfl, b6⟩
  have B6 := Lib.hid (chain0 B5.out b6)
  clear b6 B5
  go_wp2_with fail
  refine (H7.out _).mono ?_
  rintro e w7 ⟨rfl, b7⟩
  have B7 := Lib.hid (chain0 B6.out b7)
  clear b7 B6
  go_wp2_with fail
  refine (H8.out _).mono ?_
  rintro e w8 ⟨rfl, b8⟩
  have B8 := Lib.hid (chain0 B7.out b8)
  clear b8 B7
  go_wp2_with fail
  refine (aw9 _).mono ?_
  rintro e w9 ⟨rfl, b9⟩
  have B9 := Lib.hid (chain0 B8.out b9)
  clear b9 B8
  go_wp2_with fail
  refine (aw10 _).mono ?_
  rintro e w10 ⟨rfl, b10⟩
  have B10 := Lib.hid (chain0 B9.out b10)
  clear b10 B9
  go_wp2_with fail
  refine (aw11 _).mono ?_
  rintro e w11 ⟨rfl, b11⟩
  have B11 := Lib.hid (chain0 B10.out b11)
  clear b11 B10
  go_wp2_with fail
  go_ret
  exact ⟨rfl, B11.out⟩
end Sum
end Go.Proofs.Ytnnakikhfacnpaa
