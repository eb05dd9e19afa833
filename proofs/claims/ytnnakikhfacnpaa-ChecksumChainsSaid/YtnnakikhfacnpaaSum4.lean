/- Contracts of Chain, Seal and Open and their references. -/
import Derived.Test.YtnnakikhfacnpaaSum3
namespace Go.Proofs.Ytnnakikhfacnpaa
open Go.ChangeShapes Go.WideShapes Go.ChangeAt Go.RowKit
attribute [local go_sem] later_cell
namespace Sum

theorem refHash_any (s : ByteArray) (w : World) (hs : s.size ≤ maxLen) :
    Calls Try.prog 39 #[.string s] w fun e w' => e = .returned (.int .u64 (fnv 14695981039346656037 s.data.toList : Nat)) ∧ w = w' := by
  unfold maxLen at hs
  have RS := Lib.hid (hsh_snoc s)
  have RE := Lib.hid (hsh_end s)
  have RL := Lib.hid (hsh_lt s)
  have RZ := Lib.hid (hsh_zero s)
  have RW := Lib.hid fnv_wrap
  go_enter Try.func39, Try.ntmps39
  go_wp2_with fail
  go_loop [3, 4] (fun x i => ∃ k : Nat, k ≤ s.size ∧ i = .int .i64 k ∧ x = .int .u64 (hsh s k : Nat)) (fun _ i => s.size - (intOf i).toNat)
  case atStart => exact ⟨0, by omega, rfl, by rw [RZ.out]; rfl⟩
  case round =>
    obtain ⟨k, hk, rfl, rfl⟩ := hrel
    by_cases hlt : k < s.size
    · have hd : decide ((k : Int) < (s.size : Int)) = true := by simp; omega
      go_wp2_with fail
      go_round
      case rel => exact ⟨k + 1, by omega, by go_num, by rw [RW.out _ _ (RL.out k), RS.out k hlt]⟩
      case measure => simp [intOf]; omega
    · have hd : decide ((k : Int) < (s.size : Int)) = false := by simp; omega
      go_wp2_with fail
      go_ret
      exact ⟨ret_int (by rw [RE.out k (by omega)]), rfl⟩

/-- what a chained hash hashes -/
def chS (p : Nat) (s : ByteArray) : ByteArray := lowS p 8 ++ lowS s.size 8 ++ s
def chain (p : Nat) (s : ByteArray) : Nat := fnv 14695981039346656037 (chS p s).data.toList
theorem chain_lt (p : Nat) (s : ByteArray) : chain p s < 18446744073709551616 := fnv_lt _ (by omega)
theorem size_append (a b : ByteArray) : (a ++ b).size = a.size + b.size := ByteArray.size_append

theorem chain_any (p : Nat) (s : ByteArray) (w : World) (_hp : p < 18446744073709551616) (hs : s.size ≤ 100000) :
    Calls Try.prog 40 #[.int .u64 (p : Int), .string s] w fun e w' => e = .returned (.int .u64 (chain p s : Nat)) ∧ Below w.heap.size w w' := by
  have hz1 := lowS_size p 8
  have hz2 := lowS_size s.size 8
  have HH : Hid (∀ w, Calls Try.prog 38 #[.string (lowS p 8 ++ lowS s.size 8 ++ s)] w fun e w' => e = .returned (.int .u64 (chain p s : Nat)) ∧ w = w') := fun w => hash_any (chS p s) w (by unfold maxLen chS; rw [size_append, size_append]; omega)
  go_enter Try.func40, Try.ntmps40
  go_wp2_with fail
  refine (low8 p _).mono ?_
  rintro e w1 ⟨rfl, b1⟩
  go_wp2_with fail
  refine (low8 s.size _).mono ?_
  rintro e w2 ⟨rfl, b2⟩
  have B2 := Lib.hid (chain0 b1 b2)
  clear b1 b2
  generalize lowS p 8 = t1 at *
  generalize lowS s.size 8 = t2 at *
  have h1 : ¬ 9223372036854775807 < t1.size + t2.size := by omega
  have h2 : ¬ 9223372036854775807 < (t1 ++ t2).size + s.size := by rw [size_append]; omega
  have h3 : (t1 ++ t2).size = t1.size + t2.size := size_append _ _
  go_wp2_with fail
  refine (HH.out _).mono ?_
  rintro e w3 ⟨rfl, rfl⟩
  go_wp2_with fail
  go_ret
  exact ⟨rfl, B2.out⟩

theorem bytes8 (x : Nat) (w : World) (hx : x < 18446744073709551616) :
    Calls Try.prog 50 #[.int .u64 (x : Int), .int .i64 8] w fun e w' => e = .returned (.string (lowS x 8)) ∧ Below w.heap.size w w' := bytes_any x 8 w hx (by omega)
theorem bytes4 (x : Nat) (w : World) (hx : x < 18446744073709551616) :
    Calls Try.prog 50 #[.int .u64 (x : Int), .int .i64 4] w fun e w' => e = .returned (.string (lowS x 4)) ∧ Below w.heap.size w w' := bytes_any x 4 w hx (by omega)
theorem refChain_any (p : Nat) (s : ByteArray) (w : World) (hp : p < 18446744073709551616) (hs : s.size ≤ 100000) :
    Calls Try.prog 41 #[.int .u64 (p : Int), .string s] w fun e w' => e = .returned (.int .u64 (chain p s : Nat)) ∧ Below w.heap.size w w' := by
  have hz1 := lowS_size p 8
  have hz2 := lowS_size s.size 8
  have HH : Hid (∀ w, Calls Try.prog 39 #[.string (lowS p 8 ++ lowS s.size 8 ++ s)] w fun e w' => e = .returned (.int .u64 (chain p s : Nat)) ∧ w = w') := fun w => refHash_any (chS p s) w (by unfold maxLen chS; rw [size_append, size_append]; omega)
  have HP := Lib.hid hp
  clear hp
  go_enter Try.func41, Try.ntmps41
  go_wp2_with fail
  refine (bytes8 p _ HP.out).mono ?_
  rintro e w1 ⟨rfl, b1⟩
  go_wp2_with fail
  refine (bytes8 s.size _ (by omega)).mono ?_
  rintro e w2 ⟨rfl, b2⟩
  have B2 := Lib.hid (chain0 b1 b2)
  clear b1 b2
  generalize lowS p 8 = t1 at *
  generalize lowS s.size 8 = t2 at *
  have h1 : ¬ 9223372036854775807 < t1.size + t2.size := by omega
  have h2 : ¬ 9223372036854775807 < (t1 ++ t2).size + s.size := by rw [size_append]; omega
  have h3 : (t1 ++ t2).size = t1.size + t2.size := size_append _ _
  go_wp2_with fail
  refine (HH.out _).mono ?_
  rintro e w3 ⟨rfl, rfl⟩
  go_wp2_with fail
  go_ret
  exact ⟨rfl, B2.out⟩


/-- the sealed string -/
def sealS (s : ByteArray) : ByteArray := lowS (upd 0 s.data.toList) 4 ++ s
theorem seal_any (s : ByteArray) (w : World) (hs : s.size ≤ 100000) :
    Calls Try.prog 32 #[.string s] w fun e w' => e = .returned (.string (sealS s)) ∧ Below w.heap.size w w' := by
  have C := Lib.hid (fun w => crc_any s w (by unfold maxLen; omega))
  have hu := upd_lt 0 s.data.toList
  have HQ : Hid (sealS s = lowS (upd 0 s.data.toList) 4 ++ s) := rfl
  generalize upd 0 s.data.toList = y at *
  have hz1 := lowS_size y 4
  go_enter Try.func32, Try.ntmps32
  go_wp2_with fail
  refine (C.out _).mono ?_
  rintro e w1 ⟨rfl, b1⟩
  go_wp2_with fail
  refine (low4 y _).mono ?_
  rintro e w2 ⟨rfl, b2⟩
  have B2 := Lib.hid (chain0 b1 b2)
  clear b1 b2
  generalize lowS y 4 = t1 at *
  have h1 : ¬ 9223372036854775807 < t1.size + s.size := by omega
  go_wp2_with fail
  go_ret
  exact ⟨by rw [HQ.out]; rfl, B2.out⟩
theorem refSeal_any (s : ByteArray) (w : World) (hs : s.size ≤ 100000) :
    Calls Try.prog 33 #[.string s] w fun e w' => e = .returned (.string (sealS s)) ∧ Below w.heap.size w w' := by
  have C := Lib.hid (fun w => refCrc_any s w (by unfold maxLen; omega))
  have hu := upd_lt 0 s.data.toList
  have HQ : Hid (sealS s = lowS (upd 0 s.data.toList) 4 ++ s) := rfl
  generalize upd 0 s.data.toList = y at *
  have hz1 := lowS_size y 4
  go_enter Try.func33, Try.ntmps33
  go_wp2_with fail
  refine (C.out _).mono ?_
  rintro e w1 ⟨rfl, rfl⟩
  go_wp2_with fail
  refine (bytes4 y _ (by omega)).mono ?_
  rintro e w2 ⟨rfl, b2⟩
  have B2 := Lib.hid (b2)
  clear b2
  generalize lowS y 4 = t1 at *
  have h1 : ¬ 9223372036854775807 < t1.size + s.size := by omega
  go_wp2_with fail
  go_ret
  exact ⟨by rw [HQ.out]; rfl, B2.out⟩

theorem beqS (a b : ByteArray) : (a.toList == b.toList) = decide (a = b) := by
  rw [ByteArray.toList_eq, ByteArray.toList_eq]
  obtain ⟨⟨x⟩⟩ := a
  obtain ⟨⟨y⟩⟩ := b
  by_cases h : x = y
  · subst h; simp
  · have h2 : ¬ (⟨⟨x⟩⟩ : ByteArray) = ⟨⟨y⟩⟩ := fun e => h (by injection e with e; injection e)
    simp [h, h2]
theorem open_short (s : ByteArray) (w : World) (hs : s.size < 4) :
    Calls Try.prog 30 #[.string s] w fun e w' => e = .returned (.tuple #[.string ⟨#[]⟩, .int .i64 1]) ∧ Below w.heap.size w w' := by
  have hd : decide ((s.size : Int) < 4) = true := by simp; omega
  go_enter Try.func30, Try.ntmps30
  go_wp2_with fail
  go_ret2
  exact ⟨rfl, by go_grown⟩
theorem open_ok (s : ByteArray) (w : World) (h4 : 4 ≤ s.size) (hs : s.size ≤ 100000) (h : lowS (upd 0 (s.extract 4 s.size).data.toList) 4 = s.extract 0 4) :
    Calls Try.prog 30 #[.string s] w fun e w' => e = .returned (.tuple #[.string (s.extract 4 s.size), .int .i64 0]) ∧ Below w.heap.size w w' := by
  have hd : decide ((s.size : Int) < 4) = false := by simp; omega
  have h4i : (4 : Int) ≤ (s.size : Int) := by omega
  have C := Lib.hid (fun w => crc_any (s.extract 4 s.size) w (by unfold maxLen; simp; omega))
  have hu := upd_lt 0 (s.extract 4 s.size).data.toList
  generalize hy : upd 0 (s.extract 4 s.size).data.toList = y at *
  clear hy
  have hb : ((lowS y 4).toList == (s.extract 0 4).toList) = true := by rw [beqS]; simpa using h
  clear h
  go_enter Try.func30, Try.ntmps30
  go_wp2_with fail
  refine wp_region_later (by kernel_rfl) (by kernel_rfl) ?_
  repeat (first
    | go_big_quiet_step (first
      | (go_at_call 25; exact calls_later (C.out _))
      | (go_at_call 49; exact calls_later (low4 y _)))
    | quiet_step (first
      | (go_at_call 25; exact calls_later (C.out _))
      | (go_at_call 49; exact calls_later (low4 y _))))
  refine wpQuiet_nil ?_
  rintro _ ⟨x, rfl⟩
  go_wp2_with fail
  go_ret2
  exact ⟨rfl, later_below _ _⟩
theorem open_bad (s : ByteArray) (w : World) (h4 : 4 ≤ s.size) (hs : s.size ≤ 100000) (h : lowS (upd 0 (s.extract 4 s.size).data.toList) 4 ≠ s.extract 0 4) :
    Calls Try.prog 30 #[.string s] w fun e w' => e = .returned (.tuple #[.string ⟨#[]⟩, .int .i64 11]) ∧ Below w.heap.size w w' := by
  have hd : decide ((s.size : Int) < 4) = false := by simp; omega
  have h4i : (4 : Int) ≤ (s.size : Int) := by omega
  have C := Lib.hid (fun w => crc_any (s.extract 4 s.size) w (by unfold maxLen; simp; omega))
  have hu := upd_lt 0 (s.extract 4 s.size).data.toList
  generalize hy : upd 0 (s.extract 4 s.size).data.toList = y at *
  clear hy
  have hb : ((lowS y 4).toList == (s.extract 0 4).toList) = false := by rw [beqS]; simpa using h
  clear h
  go_enter Try.func30, Try.ntmps30
  go_wp2_with fail
  refine wp_region_later (by kernel_rfl) (by kernel_rfl) ?_
  repeat (first
    | go_big_quiet_step (first
      | (go_at_call 25; exact calls_later (C.out _))
      | (go_at_call 49; exact calls_later (low4 y _)))
    | quiet_step (first
      | (go_at_call 25; exact calls_later (C.out _))
      | (go_at_call 49; exact calls_later (low4 y _))))
  refine wpQuiet_nil ?_
  rintro _ ⟨x, rfl⟩
  go_wp2_with fail
  go_ret2
  exact ⟨rfl, later_below _ _⟩
theorem refOpen_short (s : ByteArray) (w : World) (hs : s.size < 4) :
    Calls Try.prog 31 #[.string s] w fun e w' => e = .returned (.tuple #[.string ⟨#[]⟩, .int .i64 1]) ∧ Below w.heap.size w w' := by
  have hd : decide ((s.size : Int) < 4) = true := by simp; omega
  go_enter Try.func31, Try.ntmps31
  go_wp2_with fail
  go_ret2
  exact ⟨rfl, by go_grown⟩
theorem cut4 (s : ByteArray) (_h4 : 4 ≤ s.size) : s.extract 0 4 ++ s.extract 4 s.size = s := by
  rw [ByteArray.extract_append_extract]
  simp
theorem append_inj {a b c : ByteArray} (hs : a.size = b.size) : a ++ c = b ++ c ↔ a = b := by
  constructor
  · intro h
    have h1 := congrArg (fun x : ByteArray => x.extract 0 a.size) h
    have e1 : (a ++ c).extract 0 a.size = a := ByteArray.extract_append_eq_left rfl
    have e2 : (b ++ c).extract 0 a.size = b := ByteArray.extract_append_eq_left hs
    rw [e1, e2] at h1
    exact h1
  · intro h; rw [h]
theorem seal_iff (s : ByteArray) (h4 : 4 ≤ s.size) : sealS (s.extract 4 s.size) = s ↔ lowS (upd 0 (s.extract 4 s.size).data.toList) 4 = s.extract 0 4 := by
  unfold sealS
  have e := cut4 s h4
  constructor
  · intro h
    rw [← append_inj (c := s.extract 4 s.size) (by rw [lowS_size]; simp; omega), h, e]
  · intro h
    rw [h, e]
theorem refOpen_ok (s : ByteArray) (w : World) (h4 : 4 ≤ s.size) (hs : s.size ≤ 100000) (h : lowS (upd 0 (s.extract 4 s.size).data.toList) 4 = s.extract 0 4) :
    Calls Try.prog 31 #[.string s] w fun e w' => e = .returned (.tuple #[.string (s.extract 4 s.size), .int .i64 0]) ∧ Below w.heap.size w w' := by
  have hd : decide ((s.size : Int) < 4) = false := by simp; omega
  have h4i : (4 : Int) ≤ (s.size : Int) := by omega
  have C := Lib.hid (fun w => refSeal_any (s.extract 4 s.size) w (by simp; omega))
  have hiff := seal_iff s h4
  generalize hy : sealS (s.extract 4 s.size) = y at *
  clear hy
  have hb : (y.toList == s.toList) = true := by rw [beqS]; simpa using hiff.2 h
  clear h hiff
  go_enter Try.func31, Try.ntmps31
  go_wp2_with fail
  refine (C.out _).mono ?_
  rintro e w1 ⟨rfl, b1⟩
  go_wp2_with fail
  go_ret2
  exact ⟨rfl, b1⟩
theorem refOpen_bad (s : ByteArray) (w : World) (h4 : 4 ≤ s.size) (hs : s.size ≤ 100000) (h : lowS (upd 0 (s.extract 4 s.size).data.toList) 4 ≠ s.extract 0 4) :
    Calls Try.prog 31 #[.string s] w fun e w' => e = .returned (.tuple #[.string ⟨#[]⟩, .int .i64 11]) ∧ Below w.heap.size w w' := by
  have hd : decide ((s.size : Int) < 4) = false := by simp; omega
  have h4i : (4 : Int) ≤ (s.size : Int) := by omega
  have C := Lib.hid (fun w => refSeal_any (s.extract 4 s.size) w (by simp; omega))
  have hiff := seal_iff s h4
  generalize hy : sealS (s.extract 4 s.size) = y at *
  clear hy
  have hb : (y.toList == s.toList) = false := by rw [beqS]; simpa using fun e => h (hiff.1 e)
  clear h hiff
  go_enter Try.func31, Try.ntmps31
  go_wp2_with fail
  refine (C.out _).mono ?_
  rintro e w1 ⟨rfl, b1⟩
  go_wp2_with fail
  go_ret2
  exact ⟨rfl, b1⟩
end Sum
end Go.Proofs.Ytnnakikhfacnpaa
