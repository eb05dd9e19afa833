/- The laws on checksums: walks. -/
import Derived.Test.YtnnakikhfacnpaaSum8
namespace Go.Proofs.Ytnnakikhfacnpaa
open Go.ChangeShapes Go.WideShapes Go.ChangeAt Go.RowKit
attribute [local go_sem] later_cell
namespace Sum
theorem toB {P : Program} {f : FuncId} {a : Array Value} {w : World} {v : Value} (h : Calls P f a w fun e w' => e = .returned v ∧ w = w') : Calls P f a w fun e w' => e = .returned v ∧ Below w.heap.size w w' :=
  h.mono fun _ _ ⟨h1, h2⟩ => ⟨h1, by rw [← h2]; exact Below.refl _ _⟩
def Ret (f : FuncId) (a : Array Value) (v : Value) : Prop := ∀ w, Calls Try.prog f a w fun e w' => e = .returned v ∧ Below w.heap.size w w'

set_option maxHeartbeats 800000 in
theorem law_crc_no (c : Nat) (s : ByteArray) (w : World) (hs : s.size ≤ maxLen) (h : ¬ s.size ≤ 6000) :
    Calls Try.prog 8 #[.int .u32 (c : Int), .string s] w fun e w' => e = .returned (.bool true) ∧ Below w.heap.size w w' := by
  have F : Hid (Ret 24 #[.string s] (.bool false)) := fun w => toB (few_no s w hs h)
  go_enter Try.func8, Try.ntmps8
  go_wp2_with fail
  refine (F.out _).mono ?_
  rintro e w1 ⟨rfl, b1⟩
  have B1 := Lib.hid b1
  clear b1
  go_wp2_with fail
  go_ret
  exact ⟨rfl, B1.out⟩

set_option maxHeartbeats 800000 in
theorem law_crc_yes (c : Nat) (s : ByteArray) (w : World) (hc : c < 4294967296) (h : s.size ≤ 6000) :
    Calls Try.prog 8 #[.int .u32 (c : Int), .string s] w fun e w' => e = .returned (.bool true) ∧ Below w.heap.size w w' := by
  have F : Hid (Ret 24 #[.string s] (.bool true)) := fun w => toB (few_yes s w (by unfold maxLen; omega) h)
  have C1 : Hid (Ret 25 #[.string s] (.int .u32 (upd 0 s.data.toList : Nat))) := fun w => crc_any s w (by unfold maxLen; omega)
  have C2 : Hid (Ret 26 #[.string s] (.int .u32 (upd 0 s.data.toList : Nat))) := fun w => toB (refCrc_any s w (by unfold maxLen; omega))
  have C3 : Hid (Ret 27 #[.int .u32 (c : Int), .string s] (.int .u32 (upd c s.data.toList : Nat))) := fun w => update_any c s w hc (by unfold maxLen; omega)
  have C4 : Hid (Ret 28 #[.int .u32 (c : Int), .string s] (.int .u32 (upd c s.data.toList : Nat))) := fun w => toB (refUpdate_any c s w hc (by unfold maxLen; omega))
  have AW : Hid (Ret 29 #[] (.bool true)) := awake_any
  generalize upd 0 s.data.toList = y1 at *
  generalize upd c s.data.toList = y2 at *
  clear hc h
  go_enter Try.func8, Try.ntmps8
  go_wp2_with fail
  refine (F.out _).mono ?_
  rintro e w1 ⟨rfl, b1⟩
  have B1 := Lib.hid b1
  clear b1
  go_wp2_with fail
  refine (C1.out _).mono ?_
  rintro e w2 ⟨rfl, b2⟩
  have B2 := Lib.hid (chain0 B1.out b2)
  clear b2 B1
  go_wp2_with fail
  refine (C2.out _).mono ?_
  rintro e w3 ⟨rfl, b3⟩
  have B3 := Lib.hid (chain0 B2.out b3)
  clear b3 B2
  go_wp2_with fail
  refine (C3.out _).mono ?_
  rintro e w4 ⟨rfl, b4⟩
  have B4 := Lib.hid (chain0 B3.out b4)
  clear b4 B3
  go_wp2_with fail
  refine (C4.out _).mono ?_
  rintro e w5 ⟨rfl, b5⟩
  have B5 := Lib.hid (chain0 B4.out b5)
  clear b5 B4
  go_wp2_with fail
  refine (AW.out _).mono ?_
  rintro e w6 ⟨rfl, b6⟩
  have B6 := Lib.hid (chain0 B5.out b6)
  clear b6 B5
  go_wp2_with fail
  go_ret
  exact ⟨rfl, B6.out⟩

set_option maxHeartbeats 800000 in
theorem law_upd_no1 (c : Nat) (a b : ByteArray) (w : World) (ha : a.size ≤ maxLen) (h : ¬ a.size ≤ 6000) :
    Calls Try.prog 9 #[.int .u32 (c : Int), .string a, .string b] w fun e w' => e = .returned (.bool true) ∧ Below w.heap.size w w' := by
  have F : Hid (Ret 24 #[.string a] (.bool false)) := fun w => toB (few_no a w ha h)
  have AW : Hid (Ret 29 #[] (.bool true)) := awake_any
  go_enter Try.func9, Try.ntmps9
  go_wp2_with fail
  refine (F.out _).mono ?_
  rintro e w1 ⟨rfl, b1⟩
  have B1 := Lib.hid b1
  clear b1
  go_wp2_with fail
  refine (AW.out _).mono ?_
  rintro e w2 ⟨rfl, b2⟩
  have B2 := Lib.hid (chain0 B1.out b2)
  clear b2 B1
  go_wp2_with fail
  go_ret
  exact ⟨rfl, B2.out⟩

set_option maxHeartbeats 800000 in
theorem law_upd_no2 (c : Nat) (a b : ByteArray) (w : World) (hb : b.size ≤ maxLen) (h : a.size ≤ 6000) (h2 : ¬ b.size ≤ 6000) :
    Calls Try.prog 9 #[.int .u32 (c : Int), .string a, .string b] w fun e w' => e = .returned (.bool true) ∧ Below w.heap.size w w' := by
  have F : Hid (Ret 24 #[.string a] (.bool true)) := fun w => toB (few_yes a w (by unfold maxLen; omega) h)
  have F2 : Hid (Ret 24 #[.string b] (.bool false)) := fun w => toB (few_no b w hb h2)
  have AW : Hid (Ret 29 #[] (.bool true)) := awake_any
  go_enter Try.func9, Try.ntmps9
  go_wp2_with fail
  refine (F.out _).mono ?_
  rintro e w1 ⟨rfl, b1⟩
  have B1 := Lib.hid b1
  clear b1
  go_wp2_with fail
  refine (F2.out _).mono ?_
  rintro e w2 ⟨rfl, b2⟩
  have B2 := Lib.hid (chain0 B1.out b2)
  clear b2 B1
  go_wp2_with fail
  refine (AW.out _).mono ?_
  rintro e w3 ⟨rfl, b3⟩
  have B3 := Lib.hid (chain0 B2.out b3)
  clear b3 B2
  go_wp2_with fail
  go_ret
  exact ⟨rfl, B3.out⟩

set_option maxHeartbeats 800000 in
theorem law_upd_yes (c : Nat) (a b : ByteArray) (w : World) (hc : c < 4294967296) (h : a.size ≤ 6000) (h2 : b.size ≤ 6000) :
    Calls Try.prog 9 #[.int .u32 (c : Int), .string a, .string b] w fun e w' => e = .returned (.bool true) ∧ Below w.heap.size w w' := by
  have F : Hid (Ret 24 #[.string a] (.bool true)) := fun w => toB (few_yes a w (by unfold maxLen; omega) h)
  have F2 : Hid (Ret 24 #[.string b] (.bool true)) := fun w => toB (few_yes b w (by unfold maxLen; omega) h2)
  have AW : Hid (Ret 29 #[] (.bool true)) := awake_any
  have hz : (a ++ b).size = a.size + b.size := size_append a b
  have hab : (a ++ b).data.toList = a.data.toList ++ b.data.toList := by simp
  have C1 : Hid (Ret 27 #[.int .u32 (c : Nat), .string a] (.int .u32 (upd c a.data.toList : Nat))) := fun w => update_any c a w hc (by unfold maxLen; omega)
  have C2 : Hid (Ret 27 #[.int .u32 (upd c a.data.toList : Nat), .string b] (.int .u32 (upd c (a ++ b).data.toList : Nat))) := fun w => by have := update_any (upd c a.data.toList) b w (upd_lt _ _) (by unfold maxLen; omega); rw [upd_append, ← hab] at this; exact this
  have C3 : Hid (Ret 27 #[.int .u32 (c : Nat), .string (a ++ b)] (.int .u32 (upd c (a ++ b).data.toList : Nat))) := fun w => update_any c (a ++ b) w hc (by unfold maxLen; omega)
  have C4 : Hid (Ret 27 #[.int .u32 (c : Nat), .string ⟨#[]⟩] (.int .u32 (c : Nat))) := fun w => by have := update_any c ⟨#[]⟩ w hc (by unfold maxLen; decide); rw [show (⟨#[]⟩ : ByteArray).data.toList = [] from rfl, upd_nil hc] at this; exact this
  have C5 : Hid (Ret 25 #[.string a] (.int .u32 (upd 0 a.data.toList : Nat))) := fun w => crc_any a w (by unfold maxLen; omega)
  have C6 : Hid (Ret 27 #[.int .u32 (upd 0 a.data.toList : Nat), .string b] (.int .u32 (upd 0 (a ++ b).data.toList : Nat))) := fun w => by have := update_any (upd 0 a.data.toList) b w (upd_lt _ _) (by unfold maxLen; omega); rw [upd_append, ← hab] at this; exact this
  have C7 : Hid (Ret 25 #[.string (a ++ b)] (.int .u32 (upd 0 (a ++ b).data.toList : Nat))) := fun w => crc_any (a ++ b) w (by unfold maxLen; omega)
  have hsz : ¬ 9223372036854775807 < a.size + b.size := by omega
  clear hz hab hc h h2
  generalize upd c a.data.toList = y1 at *
  generalize upd c (a ++ b).data.toList = y2 at *
  generalize upd 0 a.data.toList = y3 at *
  generalize upd 0 (a ++ b).data.toList = y4 at *
  go_enter Try.func9, Try.ntmps9
  go_wp2_with fail
  refine (F.out _).mono ?_
  rintro e w1 ⟨rfl, b1⟩
  have B1 := Lib.hid b1
  clear b1
  go_wp2_with fail
  refine (F2.out _).mono ?_
  rintro e w2 ⟨rfl, b2⟩
  have B2 := Lib.hid (chain0 B1.out b2)
  clear b2 B1
  go_wp2_with fail
  refine (C1.out _).mono ?_
  rintro e w3 ⟨rfl, b3⟩
  have B3 := Lib.hid (chain0 B2.out b3)
  clear b3 B2
  go_wp2_with fail
  refine (C2.out _).mono ?_
  rintro e w4 ⟨rfl, b4⟩
  have B4 := Lib.hid (chain0 B3.out b4)
  clear b4 B3
  go_wp2_with fail
  refine (C3.out _).mono ?_
  rintro e w5 ⟨rfl, b5⟩
  have B5 := Lib.hid (chain0 B4.out b5)
  clear b5 B4
  go_wp2_with fail
  refine (C4.out _).mono ?_
  rintro e w6 ⟨rfl, b6⟩
  have B6 := Lib.hid (chain0 B5.out b6)
  clear b6 B5
  go_wp2_with fail
  refine (C5.out _).mono ?_
  rintro e w7 ⟨rfl, b7⟩
  have B7 := Lib.hid (chain0 B6.out b7)
  clear b7 B6
  go_wp2_with fail
  refine (C6.out _).mono ?_
  rintro e w8 ⟨rfl, b8⟩
  have B8 := Lib.hid (chain0 B7.out b8)
  clear b8 B7
  go_wp2_with fail
  refine (C7.out _).mono ?_
  rintro e w9 ⟨rfl, b9⟩
  have B9 := Lib.hid (chain0 B8.out b9)
  clear b9 B8
  go_wp2_with fail
  refine (AW.out _).mono ?_
  rintro e w10 ⟨rfl, b10⟩
  have B10 := Lib.hid (chain0 B9.out b10)
  clear b10 B9
  go_wp2_with fail
  go_ret
  exact ⟨rfl, B10.out⟩

set_option maxHeartbeats 800000 in
theorem law_hash_no (p : Nat) (s : ByteArray) (w : World) (hs : s.size ≤ maxLen) (h : ¬ s.size ≤ 6000) :
    Calls Try.prog 13 #[.int .u64 (p : Int), .string s] w fun e w' => e = .returned (.bool true) ∧ Below w.heap.size w w' := by
  have F : Hid (Ret 24 #[.string s] (.bool false)) := fun w => toB (few_no s w hs h)
  go_enter Try.func13, Try.ntmps13
  go_wp2_with fail
  refine (F.out _).mono ?_
  rintro e w1 ⟨rfl, b1⟩
  have B1 := Lib.hid b1
  clear b1
  go_wp2_with fail
  go_ret
  exact ⟨rfl, B1.out⟩

set_option maxHeartbeats 800000 in
theorem law_hash_yes (p : Nat) (s : ByteArray) (w : World) (hp : p < 18446744073709551616) (h : s.size ≤ 6000) :
    Calls Try.prog 13 #[.int .u64 (p : Int), .string s] w fun e w' => e = .returned (.bool true) ∧ Below w.heap.size w w' := by
  have F : Hid (Ret 24 #[.string s] (.bool true)) := fun w => toB (few_yes s w (by unfold maxLen; omega) h)
  have C1 : Hid (Ret 38 #[.string s] (.int .u64 (fnv 14695981039346656037 s.data.toList : Nat))) := fun w => toB (hash_any s w (by unfold maxLen; omega))
  have C2 : Hid (Ret 39 #[.string s] (.int .u64 (fnv 14695981039346656037 s.data.toList : Nat))) := fun w => toB (refHash_any s w (by unfold maxLen; omega))
  have C3 : Hid (Ret 40 #[.int .u64 (p : Int), .string s] (.int .u64 (chain p s : Nat))) := fun w => chain_any p s w hp (by omega)
  have C4 : Hid (Ret 41 #[.int .u64 (p : Int), .string s] (.int .u64 (chain p s : Nat))) := fun w => refChain_any p s w hp (by omega)
  have AW : Hid (Ret 29 #[] (.bool true)) := awake_any
  generalize fnv 14695981039346656037 s.data.toList = y1 at *
  generalize chain p s = y2 at *
  clear hp h
  go_enter Try.func13, Try.ntmps13
  go_wp2_with fail
  refine (F.out _).mono ?_
  rintro e w1 ⟨rfl, b1⟩
  have B1 := Lib.hid b1
  clear b1
  go_wp2_with fail
  refine (C1.out _).mono ?_
  rintro e w2 ⟨rfl, b2⟩
  have B2 := Lib.hid (chain0 B1.out b2)
  clear b2 B1
  go_wp2_with fail
  refine (C2.out _).mono ?_
  rintro e w3 ⟨rfl, b3⟩
  have B3 := Lib.hid (chain0 B2.out b3)
  clear b3 B2
  go_wp2_with fail
  refine (C3.out _).mono ?_
  rintro e w4 ⟨rfl, b4⟩
  have B4 := Lib.hid (chain0 B3.out b4)
  clear b4 B3
  go_wp2_with fail
  refine (C4.out _).mono ?_
  rintro e w5 ⟨rfl, b5⟩
  have B5 := Lib.hid (chain0 B4.out b5)
  clear b5 B4
  go_wp2_with fail
  refine (AW.out _).mono ?_
  rintro e w6 ⟨rfl, b6⟩
  have B6 := Lib.hid (chain0 B5.out b6)
  clear b6 B5
  go_wp2_with fail
  go_ret
  exact ⟨rfl, B6.out⟩

set_option maxHeartbeats 800000 in
theorem law_seal_no (s : ByteArray) (w : World) (hs : s.size ≤ maxLen) (h : ¬ s.size ≤ 6000) :
    Calls Try.prog 10 #[.string s] w fun e w' => e = .returned (.bool true) ∧ Below w.heap.size w w' := by
  have F : Hid (Ret 24 #[.string s] (.bool false)) := fun w => toB (few_no s w hs h)
  have AW : Hid (Ret 29 #[] (.bool true)) := awake_any
  go_enter Try.func10, Try.ntmps10
  go_wp2_with fail
  refine (F.out _).mono ?_
  rintro e w1 ⟨rfl, b1⟩
  have B1 := Lib.hid b1
  clear b1
  go_wp2_with fail
  refine (AW.out _).mono ?_
  rintro e w2 ⟨rfl, b2⟩
  have B2 := Lib.hid (chain0 B1.out b2)
  clear b2 B1
  go_wp2_with fail
  go_ret
  exact ⟨rfl, B2.out⟩

/-- what Open returns -/
def opnV (s : ByteArray) : ByteArray × Int := if s.size < 4 then (⟨#[]⟩, 1) else if lowS (upd 0 (s.extract 4 s.size).data.toList) 4 = s.extract 0 4 then (s.extract 4 s.size, 0) else (⟨#[]⟩, 11)
theorem open_all (s : ByteArray) (hs : s.size ≤ 100000) : Ret 30 #[.string s] (.tuple #[.string (opnV s).1, .int .i64 (opnV s).2]) := by
  intro w
  unfold opnV
  by_cases h : s.size < 4
  · rw [if_pos h]; exact open_short s w h
  · rw [if_neg h]
    by_cases h2 : lowS (upd 0 (s.extract 4 s.size).data.toList) 4 = s.extract 0 4
    · rw [if_pos h2]; exact open_ok s w (by omega) hs h2
    · rw [if_neg h2]; exact open_bad s w (by omega) hs h2
theorem refOpen_all (s : ByteArray) (hs : s.size ≤ 100000) : Ret 31 #[.string s] (.tuple #[.string (opnV s).1, .int .i64 (opnV s).2]) := by
  intro w
  unfold opnV
  by_cases h : s.size < 4
  · rw [if_pos h]; exact refOpen_short s w h
  · rw [if_neg h]
    by_cases h2 : lowS (upd 0 (s.extract 4 s.size).data.toList) 4 = s.extract 0 4
    · rw [if_pos h2]; exact refOpen_ok s w (by omega) hs h2
    · rw [if_neg h2]; exact refOpen_bad s w (by omega) hs h2

set_option maxHeartbeats 800000 in
theorem law_seal_yes (s : ByteArray) (w : World) (h : s.size ≤ 6000) :
    Calls Try.prog 10 #[.string s] w fun e w' => e = .returned (.bool true) ∧ Below w.heap.size w w' := by
  have F : Hid (Ret 24 #[.string s] (.bool true)) := fun w => toB (few_yes s w (by unfold maxLen; omega) h)
  have C1 : Hid (Ret 30 #[.string s] (.tuple #[.string (opnV s).1, .int .i64 (opnV s).2])) := open_all s (by omega)
  have C2 : Hid (Ret 31 #[.string s] (.tuple #[.string (opnV s).1, .int .i64 (opnV s).2])) := refOpen_all s (by omega)
  have C3 : Hid (Ret 32 #[.string s] (.string (sealS s))) := fun w => seal_any s w (by omega)
  have C4 : Hid (Ret 33 #[.string s] (.string (sealS s))) := fun w => refSeal_any s w (by omega)
  have AW : Hid (Ret 29 #[] (.bool true)) := awake_any
  generalize (opnV s).1 = y1 at *
  generalize (opnV s).2 = y2 at *
  generalize sealS s = y3 at *
  clear h
  go_enter Try.func10, Try.ntmps10
  go_wp2_with fail
  refine (F.out _).mono ?_
  rintro e w1 ⟨rfl, b1⟩
  have B1 := Lib.hid b1
  clear b1
  go_wp2_with fail
  refine (C1.out _).mono ?_
  rintro e w2 ⟨rfl, b2⟩
  have B2 := Lib.hid (chain0 B1.out b2)
  clear b2 B1
  go_wp2_with fail
  refine (C2.out _).mono ?_
  rintro e w3 ⟨rfl, b3⟩
  have B3 := Lib.hid (chain0 B2.out b3)
  clear b3 B2
  go_wp2_with fail
  refine (C3.out _).mono ?_
  rintro e w4 ⟨rfl, b4⟩
  have B4 := Lib.hid (chain0 B3.out b4)
  clear b4 B3
  go_wp2_with fail
  refine (C4.out _).mono ?_
  rintro e w5 ⟨rfl, b5⟩
  have B5 := Lib.hid (chain0 B4.out b5)
  clear b5 B4
  go_wp2_with fail
  refine (AW.out _).mono ?_
  rintro e w6 ⟨rfl, b6⟩
  have B6 := Lib.hid (chain0 B5.out b6)
  clear b6 B5
  go_wp2_with fail
  go_ret
  exact ⟨rfl, B6.out⟩

set_option maxHeartbeats 800000 in
theorem law_hex_no (x : Nat) (s : ByteArray) (w : World) (hs : s.size ≤ maxLen) (h : ¬ s.size ≤ 6000) :
    Calls Try.prog 12 #[.int .u64 (x : Int), .string s] w fun e w' => e = .returned (.bool true) ∧ Below w.heap.size w w' := by
  have F : Hid (Ret 24 #[.string s] (.bool false)) := fun w => toB (few_no s w hs h)
  have AW : Hid (Ret 29 #[] (.bool true)) := awake_any
  go_enter Try.func12, Try.ntmps12
  go_wp2_with fail
  refine (F.out _).mono ?_
  rintro e w1 ⟨rfl, b1⟩
  have B1 := Lib.hid b1
  clear b1
  go_wp2_with fail
  refine (AW.out _).mono ?_
  rintro e w2 ⟨rfl, b2⟩
  have B2 := Lib.hid (chain0 B1.out b2)
  clear b2 B1
  go_wp2_with fail
  go_ret
  exact ⟨rfl, B2.out⟩

theorem unhV_hexS {x : Nat} (hx : x < 18446744073709551616) : unhV (hexS x) = (x, 0) := by
  have h1 : (hexS x).size = 16 := by simp [hexS, ByteArray.size, hexL_length]
  refine unhV_some h1 ?_
  show unh 0 (hexL x 16) = some x
  exact unhex_hex hx
theorem unhV_cases (s : ByteArray) : (unhV s).2 = 2 ∨ ((unhV s).2 = 0 ∧ (unhV s).1 < 18446744073709551616 ∧ hexS (unhV s).1 = s) := by
  unfold unhV
  split
  · rename_i hs
    split
    · exact .inl rfl
    · rename_i x hx
      have hl : s.data.toList.length = 16 := by simpa using hs
      refine .inr ⟨rfl, ?_, ?_⟩
      · have := unh_lt _ hx
        rw [hl] at this
        exact this
      · unfold hexS
        show (⟨(hexL x 16).toArray⟩ : ByteArray) = s
        rw [hex_unhex hl hx]
  · exact .inl rfl

set_option maxHeartbeats 800000 in
theorem law_hex_bad (x : Nat) (s : ByteArray) (w : World) (hx : x < 18446744073709551616) (h : s.size ≤ 6000) (h2 : (unhV s).2 = 2) :
    Calls Try.prog 12 #[.int .u64 (x : Int), .string s] w fun e w' => e = .returned (.bool true) ∧ Below w.heap.size w w' := by
  have F : Hid (Ret 24 #[.string s] (.bool true)) := fun w => toB (few_yes s w (by unfold maxLen; omega) h)
  have C1 : Hid (Ret 35 #[.int .u64 (x : Int)] (.string (hexS x))) := fun w => hex_any x w hx
  have C2 : Hid (Ret 34 #[.string (hexS x)] (.tuple #[.int .u64 (x : Int), .int .i64 0])) := fun w => by have := unhex_all (hexS x) w; rw [unhV_hexS hx] at this; exact this
  have C5 : Hid (Ret 37 #[.int .u64 (x : Int)] (.string (hexS x))) := fun w => refHex_any x w hx
  have AW : Hid (Ret 29 #[] (.bool true)) := awake_any
  have C3 : Hid (Ret 34 #[.string s] (.tuple #[.int .u64 ((unhV s).1 : Int), .int .i64 2])) := fun w => by have := unhex_all s w; rw [h2] at this; exact this
  have C4 : Hid (Ret 36 #[.string s] (.tuple #[.int .u64 ((unhV s).1 : Int), .int .i64 2])) := fun w => by have := refUnhex_all s w; rw [h2] at this; exact this
  clear hx h h2
  generalize (unhV s).1 = m at *
  generalize hexS x = t at *
  go_enter Try.func12, Try.ntmps12
  go_wp2_with fail
  refine (F.out _).mono ?_
  rintro e w1 ⟨rfl, b1⟩
  have B1 := Lib.hid b1
  clear b1
  go_wp2_with fail
  refine (C1.out _).mono ?_
  rintro e w2 ⟨rfl, b2⟩
  have B2 := Lib.hid (chain0 B1.out b2)
  clear b2 B1
  go_wp2_with fail
  refine (C2.out _).mono ?_
  rintro e w3 ⟨rfl, b3⟩
  have B3 := Lib.hid (chain0 B2.out b3)
  clear b3 B2
  go_wp2_with fail
  refine (C3.out _).mono ?_
  rintro e w4 ⟨rfl, b4⟩
  have B4 := Lib.hid (chain0 B3.out b4)
  clear b4 B3
  go_wp2_with fail
  refine (C4.out _).mono ?_
  rintro e w5 ⟨rfl, b5⟩
  have B5 := Lib.hid (chain0 B4.out b5)
  clear b5 B4
  go_wp2_with fail
  refine (C1.out _).mono ?_
  rintro e w6 ⟨rfl, b6⟩
  have B6 := Lib.hid (chain0 B5.out b6)
  clear b6 B5
  go_wp2_with fail
  refine (C5.out _).mono ?_
  rintro e w7 ⟨rfl, b7⟩
  have B7 := Lib.hid (chain0 B6.out b7)
  clear b7 B6
  go_wp2_with fail
  refine (AW.out _).mono ?_
  rintro e w8 ⟨rfl, b8⟩
  have B8 := Lib.hid (chain0 B7.out b8)
  clear b8 B7
  go_wp2_with fail
  go_ret
  exact ⟨rfl, B8.out⟩

set_option maxHeartbeats 800000 in
theorem law_hex_good (x : Nat) (s : ByteArray) (w : World) (hx : x < 18446744073709551616) (h : s.size ≤ 6000) (h2 : (unhV s).2 = 0) (h3 : (unhV s).1 < 18446744073709551616) (h4 : hexS (unhV s).1 = s) :
    Calls Try.prog 12 #[.int .u64 (x : Int), .string s] w fun e w' => e = .returned (.bool true) ∧ Below w.heap.size w w' := by
  have F : Hid (Ret 24 #[.string s] (.bool true)) := fun w => toB (few_yes s w (by unfold maxLen; omega) h)
  have C1 : Hid (Ret 35 #[.int .u64 (x : Int)] (.string (hexS x))) := fun w => hex_any x w hx
  have C2 : Hid (Ret 34 #[.string (hexS x)] (.tuple #[.int .u64 (x : Int), .int .i64 0])) := fun w => by have := unhex_all (hexS x) w; rw [unhV_hexS hx] at this; exact this
  have C5 : Hid (Ret 37 #[.int .u64 (x : Int)] (.string (hexS x))) := fun w => refHex_any x w hx
  have AW : Hid (Ret 29 #[] (.bool true)) := awake_any
  have C3 : Hid (Ret 34 #[.string s] (.tuple #[.int .u64 ((unhV s).1 : Int), .int .i64 0])) := fun w => by have := unhex_all s w; rw [h2] at this; exact this
  have C4 : Hid (Ret 36 #[.string s] (.tuple #[.int .u64 ((unhV s).1 : Int), .int .i64 0])) := fun w => by have := refUnhex_all s w; rw [h2] at this; exact this
  have C6 : Hid (Ret 35 #[.int .u64 ((unhV s).1 : Int)] (.string s)) := fun w => by have := hex_any (unhV s).1 w h3; rw [h4] at this; exact this
  clear hx h h2 h3 h4
  generalize (unhV s).1 = m at *
  generalize hexS x = t at *
  go_enter Try.func12, Try.ntmps12
  go_wp2_with fail
  refine (F.out _).mono ?_
  rintro e w1 ⟨rfl, b1⟩
  have B1 := Lib.hid b1
  clear b1
  go_wp2_with fail
  refine (C1.out _).mono ?_
  rintro e w2 ⟨rfl, b2⟩
  have B2 := Lib.hid (chain0 B1.out b2)
  clear b2 B1
  go_wp2_with fail
  refine (C2.out _).mono ?_
  rintro e w3 ⟨rfl, b3⟩
  have B3 := Lib.hid (chain0 B2.out b3)
  clear b3 B2
  go_wp2_with fail
  refine (C3.out _).mono ?_
  rintro e w4 ⟨rfl, b4⟩
  have B4 := Lib.hid (chain0 B3.out b4)
  clear b4 B3
  go_wp2_with fail
  refine (C4.out _).mono ?_
  rintro e w5 ⟨rfl, b5⟩
  have B5 := Lib.hid (chain0 B4.out b5)
  clear b5 B4
  go_wp2_with fail
  refine (C1.out _).mono ?_
  rintro e w6 ⟨rfl, b6⟩
  have B6 := Lib.hid (chain0 B5.out b6)
  clear b6 B5
  go_wp2_with fail
  refine (C5.out _).mono ?_
  rintro e w7 ⟨rfl, b7⟩
  have B7 := Lib.hid (chain0 B6.out b7)
  clear b7 B6
  go_wp2_with fail
  refine (C6.out _).mono ?_
  rintro e w8 ⟨rfl, b8⟩
  have B8 := Lib.hid (chain0 B7.out b8)
  clear b8 B7
  go_wp2_with fail
  refine (AW.out _).mono ?_
  rintro e w9 ⟨rfl, b9⟩
  have B9 := Lib.hid (chain0 B8.out b9)
  clear b9 B8
  go_wp2_with fail
  go_ret
  exact ⟨rfl, B9.out⟩

theorem law_crc (c : Int) (s : ByteArray) (w : World) (h0 : 0 ≤ c) (h1 : c < 4294967296) (hs : s.size ≤ maxLen) :
    Calls Try.prog 8 #[.int .u32 c, .string s] w fun e w' => e = .returned (.bool true) ∧ Below w.heap.size w w' := by
  obtain ⟨n, rfl⟩ := Int.eq_ofNat_of_zero_le h0
  by_cases h : s.size ≤ 6000
  · exact law_crc_yes n s w (by omega) h
  · exact law_crc_no n s w hs h
theorem law_upd (c : Int) (a b : ByteArray) (w : World) (h0 : 0 ≤ c) (h1 : c < 4294967296) (ha : a.size ≤ maxLen) (hb : b.size ≤ maxLen) :
    Calls Try.prog 9 #[.int .u32 c, .string a, .string b] w fun e w' => e = .returned (.bool true) ∧ Below w.heap.size w w' := by
  obtain ⟨n, rfl⟩ := Int.eq_ofNat_of_zero_le h0
  by_cases h : a.size ≤ 6000
  · by_cases h2 : b.size ≤ 6000
    · exact law_upd_yes n a b w (by omega) h h2
    · exact law_upd_no2 n a b w hb h h2
  · exact law_upd_no1 n a b w ha h
theorem law_hash (p : Int) (s : ByteArray) (w : World) (h0 : 0 ≤ p) (h1 : p < 18446744073709551616) (hs : s.size ≤ maxLen) :
    Calls Try.prog 13 #[.int .u64 p, .string s] w fun e w' => e = .returned (.bool true) ∧ Below w.heap.size w w' := by
  obtain ⟨n, rfl⟩ := Int.eq_ofNat_of_zero_le h0
  by_cases h : s.size ≤ 6000
  · exact law_hash_yes n s w (by omega) h
  · exact law_hash_no n s w hs h
theorem law_seal (s : ByteArray) (w : World) (hs : s.size ≤ maxLen) :
    Calls Try.prog 10 #[.string s] w fun e w' => e = .returned (.bool true) ∧ Below w.heap.size w w' := by
  by_cases h : s.size ≤ 6000
  · exact law_seal_yes s w h
  · exact law_seal_no s w hs h
theorem law_hex (x : Int) (s : ByteArray) (w : World) (h0 : 0 ≤ x) (h1 : x < 18446744073709551616) (hs : s.size ≤ maxLen) :
    Calls Try.prog 12 #[.int .u64 x, .string s] w fun e w' => e = .returned (.bool true) ∧ Below w.heap.size w w' := by
  obtain ⟨n, rfl⟩ := Int.eq_ofNat_of_zero_le h0
  by_cases h : s.size ≤ 6000
  · rcases unhV_cases s with h2 | ⟨h2, h3, h4⟩
    · exact law_hex_bad n s w (by omega) h h2
    · exact law_hex_good n s w (by omega) h h2 h3 h4
  · exact law_hex_no n s w hs h
end Sum
end Go.Proofs.Ytnnakikhfacnpaa
