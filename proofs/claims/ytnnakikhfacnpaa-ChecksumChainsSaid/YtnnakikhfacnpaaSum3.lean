/- Contracts of Hash, low, bytes. -/
import Derived.Test.YtnnakikhfacnpaaSum2
import Derived.Laws.BytesArg
import Derived.Laws.Concat
namespace Go.Proofs.Ytnnakikhfacnpaa
open Go.ChangeShapes Go.WideShapes Go.ChangeAt Go.RowKit
namespace Sum

theorem bx64 {a : Int} {n : Nat} {b : Int} {m : Nat} (ha : a = (n : Int)) (hb : b = (m : Int)) (hn : n < 18446744073709551616) (hm : m < 18446744073709551616) : bits .xor .u64 a b = ((n ^^^ m : Nat) : Int) := by
  subst ha hb; exact u64_xor_nat n m hn hm
theorem fnv_wrap (y : Nat) (b : UInt8) (hy : y < 18446744073709551616) : IntKind.u64.wrap (bits BinOp.xor IntKind.u64 (↑y) (IntKind.u64.wrap ↑b.toNat) * 1099511628211) = ((fnv1 y b : Nat) : Int) := by
  have hb := b.toNat_lt
  have e1 : IntKind.u64.wrap (b.toNat : Int) = ((b.toNat : Nat) : Int) := by rw [IntKind.wrap_u64]; omega
  rw [bx64 rfl e1 hy (by omega), IntKind.wrap_u64]
  unfold fnv1
  generalize y ^^^ b.toNat = z
  omega
/-- the hash behind k bytes -/
def hsh (s : ByteArray) (k : Nat) : Nat := fnv 14695981039346656037 (s.data.toList.take k)
theorem hsh_lt (s : ByteArray) (k : Nat) : hsh s k < 18446744073709551616 := fnv_lt _ (by omega)
theorem hsh_snoc (s : ByteArray) (k : Nat) (h : k < s.size) : hsh s (k + 1) = fnv1 (hsh s k) s[k] := by
  unfold hsh; rw [take_snoc s k h, fnv_snoc]
theorem hsh_end (s : ByteArray) (k : Nat) (h : s.size ≤ k) : fnv 14695981039346656037 s.data.toList = hsh s k := by
  unfold hsh; rw [take_all s k h]
theorem hsh_zero (s : ByteArray) : hsh s 0 = 14695981039346656037 := rfl

theorem hash_any (s : ByteArray) (w : World) (hs : s.size ≤ maxLen) :
    Calls Try.prog 38 #[.string s] w fun e w' => e = .returned (.int .u64 (fnv 14695981039346656037 s.data.toList : Nat)) ∧ w = w' := by
  unfold maxLen at hs
  have RS := Lib.hid (hsh_snoc s)
  have RE := Lib.hid (hsh_end s)
  have RL := Lib.hid (hsh_lt s)
  have RZ := Lib.hid (hsh_zero s)
  have RW := Lib.hid fnv_wrap
  go_enter Try.func38, Try.ntmps38
  go_wp2_with fail
  go_loop [3, 4] (fun x i => ∃ k : Nat, k ≤ s.size ∧ i = .int .i64 k ∧ x = .int .u64 (hsh s k : Nat)) (fun _ i => s.size - (intOf i).toNat)
  case atStart => exact ⟨0, by omega, rfl, by rw [RZ.out]; rfl⟩
  case round =>
    obtain ⟨k, hk, rfl, rfl⟩ := hrel
    by_cases hlt : k < s.size
    · have hd : decide ((k : Int) < (s.size : Int)) = true := by simp; omega
      go_wp2_with fail
      go_round
      case rel => exact ⟨k + 1, by omega, by go_num, by rw [RW.out _ _ (RL.out k), RS.out k hlt]⟩
      case measure => simp [intOf]; omega
    · have hd : decide ((k : Int) < (s.size : Int)) = false := by simp; omega
      go_wp2_with fail
      go_ret
      exact ⟨ret_int (by rw [RE.out k (by omega)]), rfl⟩

/-- the n low-order bytes, least significant first -/
def lowL (x n : Nat) : List UInt8 := (List.range n).map fun i => UInt8.ofNat (x / 256 ^ i % 256)
theorem lowL_length (x n : Nat) : (lowL x n).length = n := by simp [lowL]
theorem lowL_succ (x n : Nat) : lowL x (n + 1) = lowL x n ++ [UInt8.ofNat (x / 256 ^ n % 256)] := by simp [lowL, List.range_succ]
def lowS (x n : Nat) : ByteArray := ⟨(lowL x n).toArray⟩
theorem lowS_size (x n : Nat) : (lowS x n).size = n := by simp [lowS, ByteArray.size, lowL_length]
theorem lowS_succ (x n : Nat) : lowS x n ++ strOfNums [((x / 256 ^ n : Nat) : Int) % 256] = lowS x (n + 1) := by
  unfold lowS
  rw [lowL_succ]
  unfold strOfNums
  rw [ByteArray.mk_append_mk]
  simp
  have : (((x / 256 ^ n : Nat) : Int) % 256).toNat = x / 256 ^ n % 256 := by omega
  simpa using congrArg UInt8.ofNat this

theorem conv_new (w : World) (xs : List Int) :
    (convert 49 9 (.slice (some ⟨w.heap.size, 0, none⟩) xs.length xs.length)).run Try.prog (w.alloc (.cells (xs.map (Value.int .u8)).toArray 5)) = .ok (.string (strOfNums xs)) (w.alloc (.cells (xs.map (Value.int .u8)).toArray 5)) := by
  refine run_convert_bytes_arg (P := Try.prog) _ 49 5 (by kernel_rfl) (by kernel_rfl) _ _ _ _ xs rfl ?_ 9 (by kernel_rfl)
  intro i hi
  rw [Nat.zero_add, World.cell?_alloc_new]
  simp [hi]

theorem bytes_any (x m : Nat) (w : World) (hx : x < 18446744073709551616) (hm : m ≤ 8) :
    Calls Try.prog 50 #[.int .u64 (x : Int), .int .i64 (m : Int)] w fun e w' => e = .returned (.string (lowS x m)) ∧ Below w.heap.size w w' := by
  have CN := Lib.hid conv_new
  have HX := Lib.hid hx
  clear hx
  have RS := Lib.hid (lowS_succ x)
  have RZ := Lib.hid (lowS_size x)
  go_enter Try.func50, Try.ntmps50
  go_wp2_with fail
  go_loopw [0, 5, 6] (fun n t i wr => ∃ k : Nat, k ≤ m ∧ i = .int .i64 k ∧ n = .int .u64 (x / 256 ^ k : Nat) ∧ t = .string (lowS x k) ∧ Below w.heap.size w wr) (fun _ _ i _ => m - (intOf i).toNat)
  case atStart => exact ⟨0, by omega, rfl, by simp, rfl, Below.refl _ _⟩
  case round =>
    obtain ⟨k, hk, rfl, rfl, rfl, B⟩ := hrel
    by_cases hlt : k < m
    · have hd : decide ((k : Int) < (m : Int)) = true := by simp; omega
      have hs := RS.out k
      have hz := RZ.out k
      have hq : x / 256 ^ k / 256 = x / 256 ^ (k + 1) := by rw [Nat.div_div_eq_div_mul, Nat.pow_succ]
      have HQ := Lib.hid hq
      clear hq
      have HY := Lib.hid (show x / 256 ^ k ≤ x from Nat.div_le_self _ _)
      generalize x / 256 ^ k = y at *
      have hc : (convert 49 9 (.slice (some ⟨wr.heap.size, 0, none⟩) 1 1)).run Try.prog (wr.alloc (.cells #[.int .u8 ((y : Int) % 256)] 5)) = .ok (.string (strOfNums [(y : Int) % 256])) (wr.alloc (.cells #[.int .u8 ((y : Int) % 256)] 5)) := CN.out wr [(y : Int) % 256]
      have h1 : (strOfNums [(y : Int) % 256]).size = 1 := strOfNums_size _
      have HS := Lib.hid hs
      clear hs
      generalize strOfNums [(y : Int) % 256] = t1 at *
      generalize hk1 : lowS x k = t0 at *
      have HK := Lib.hid hk1
      clear hk1
      have hsz : ¬ 9223372036854775807 < t0.size + t1.size := by omega
      go_wp2_with fail
      go_roundw
      case rel => exact ⟨k + 1, by omega, by go_num, by rw [← HQ.out, IntKind.wrap_u64]; congr 1; have := HY.out; have := HX.out; omega, by rw [HS.out], B.alloc B.size _⟩
      case measure => simp [intOf]; omega
    · have hd : decide ((k : Int) < (m : Int)) = false := by simp; omega
      obtain rfl : k = m := by omega
      go_wp2_with fail
      go_ret
      exact ⟨rfl, B⟩

theorem low4_num (x : Nat) : strOfNums [(x : Int) % 256, (x : Int) / 256 % 256, (x : Int) / 65536 % 256, (x : Int) / 16777216 % 256] = lowS x 4 := by
  unfold strOfNums lowS
  congr 2
  simp only [List.map_cons, List.map_nil, lowL, List.range, List.range.loop]
  have h : ∀ (n : Nat), (((x : Int) / ((256 ^ n : Nat) : Int)) % 256).toNat = x / 256 ^ n % 256 := fun n => by
    have e : (x : Int) / ((256 ^ n : Nat) : Int) = ((x / 256 ^ n : Nat) : Int) := by simp
    rw [e]; omega
  have h0 : ((x : Int) % 256).toNat = x / 256 ^ 0 % 256 := by rw [Nat.pow_zero, Nat.div_one]; omega
  have h1 : ((x : Int) / 256 % 256).toNat = x / 256 ^ 1 % 256 := h 1
  have h2 : ((x : Int) / 65536 % 256).toNat = x / 256 ^ 2 % 256 := h 2
  have h3 : ((x : Int) / 16777216 % 256).toNat = x / 256 ^ 3 % 256 := h 3
  rw [h0, h1, h2, h3]
theorem low4 (x : Nat) (w : World) :
    Calls Try.prog 49 #[.int .u64 (x : Int), .int .i64 4] w fun e w' => e = .returned (.string (lowS x 4)) ∧ Below w.heap.size w w' := by
  have hmk : ∀ w, (Instr.makeSlice 49 (.int .i64 4) (.int .i64 4)).run Try.prog w = .ok (.slice (some ⟨w.heap.size, 0, none⟩) 4 4) (w.alloc (.cells #[.int .u8 0, .int .u8 0, .int .u8 0, .int .u8 0] 5)) := fun _ => by kernel_rfl
  have hc : (convert 49 9 (.slice (some ⟨w.heap.size, 0, none⟩) 4 4)).run Try.prog (w.alloc (.cells #[.int .u8 ((x : Int) % 256), .int .u8 ((x : Int) / 256 % 256), .int .u8 ((x : Int) / 65536 % 256), .int .u8 ((x : Int) / 16777216 % 256)] 5)) = .ok (.string (lowS x 4)) (w.alloc (.cells #[.int .u8 ((x : Int) % 256), .int .u8 ((x : Int) / 256 % 256), .int .u8 ((x : Int) / 65536 % 256), .int .u8 ((x : Int) / 16777216 % 256)] 5)) := by
    rw [← low4_num]
    exact conv_new w [(x : Int) % 256, (x : Int) / 256 % 256, (x : Int) / 65536 % 256, (x : Int) / 16777216 % 256]
  go_enter Try.func49, Try.ntmps49
  go_wp2_with fail
  refine wp_loop_rounds 5 ?_
  iterate 5 (rw [rounds_succ]; go_wp2_with fail)
  go_ret
  exact ⟨rfl, by go_grown⟩

theorem low8_num (x : Nat) : strOfNums [(x : Int) % 256, (x : Int) / 256 % 256, (x : Int) / 65536 % 256, (x : Int) / 16777216 % 256, (x : Int) / 4294967296 % 256, (x : Int) / 1099511627776 % 256, (x : Int) / 281474976710656 % 256, (x : Int) / 72057594037927936 % 256] = lowS x 8 := by
  unfold strOfNums lowS
  congr 2
  simp only [List.map_cons, List.map_nil, lowL, List.range, List.range.loop]
  have h : ∀ (n : Nat), (((x : Int) / ((256 ^ n : Nat) : Int)) % 256).toNat = x / 256 ^ n % 256 := fun n => by
    have e : (x : Int) / ((256 ^ n : Nat) : Int) = ((x / 256 ^ n : Nat) : Int) := by simp
    rw [e]; omega
  have h0 : ((x : Int) % 256).toNat = x / 256 ^ 0 % 256 := by rw [Nat.pow_zero, Nat.div_one]; omega
  have h1 : ((x : Int) / 256 % 256).toNat = x / 256 ^ 1 % 256 := h 1
  have h2 : ((x : Int) / 65536 % 256).toNat = x / 256 ^ 2 % 256 := h 2
  have h3 : ((x : Int) / 16777216 % 256).toNat = x / 256 ^ 3 % 256 := h 3
  have h4 : ((x : Int) / 4294967296 % 256).toNat = x / 256 ^ 4 % 256 := h 4
  have h5 : ((x : Int) / 1099511627776 % 256).toNat = x / 256 ^ 5 % 256 := h 5
  have h6 : ((x : Int) / 281474976710656 % 256).toNat = x / 256 ^ 6 % 256 := h 6
  have h7 : ((x : Int) / 72057594037927936 % 256).toNat = x / 256 ^ 7 % 256 := h 7
  rw [h0, h1, h2, h3, h4, h5, h6, h7]
theorem low8 (x : Nat) (w : World) :
    Calls Try.prog 49 #[.int .u64 (x : Int), .int .i64 8] w fun e w' => e = .returned (.string (lowS x 8)) ∧ Below w.heap.size w w' := by
  have hmk : ∀ w, (Instr.makeSlice 49 (.int .i64 8) (.int .i64 8)).run Try.prog w = .ok (.slice (some ⟨w.heap.size, 0, none⟩) 8 8) (w.alloc (.cells #[.int .u8 0, .int .u8 0, .int .u8 0, .int .u8 0, .int .u8 0, .int .u8 0, .int .u8 0, .int .u8 0] 5)) := fun _ => by kernel_rfl
  have hc : (convert 49 9 (.slice (some ⟨w.heap.size, 0, none⟩) 8 8)).run Try.prog (w.alloc (.cells #[.int .u8 ((x : Int) % 256), .int .u8 ((x : Int) / 256 % 256), .int .u8 ((x : Int) / 65536 % 256), .int .u8 ((x : Int) / 16777216 % 256), .int .u8 ((x : Int) / 4294967296 % 256), .int .u8 ((x : Int) / 1099511627776 % 256), .int .u8 ((x : Int) / 281474976710656 % 256), .int .u8 ((x : Int) / 72057594037927936 % 256)] 5)) = .ok (.string (lowS x 8)) (w.alloc (.cells #[.int .u8 ((x : Int) % 256), .int .u8 ((x : Int) / 256 % 256), .int .u8 ((x : Int) / 65536 % 256), .int .u8 ((x : Int) / 16777216 % 256), .int .u8 ((x : Int) / 4294967296 % 256), .int .u8 ((x : Int) / 1099511627776 % 256), .int .u8 ((x : Int) / 281474976710656 % 256), .int .u8 ((x : Int) / 72057594037927936 % 256)] 5)) := by
    rw [← low8_num]
    exact conv_new w [(x : Int) % 256, (x : Int) / 256 % 256, (x : Int) / 65536 % 256, (x : Int) / 16777216 % 256, (x : Int) / 4294967296 % 256, (x : Int) / 1099511627776 % 256, (x : Int) / 281474976710656 % 256, (x : Int) / 72057594037927936 % 256]
  go_enter Try.func49, Try.ntmps49
  go_wp2_with fail
  refine wp_loop_rounds 9 ?_
  iterate 9 (rw [rounds_succ]; go_wp2_with fail)
  go_ret
  exact ⟨rfl, by go_grown⟩
end Sum
end Go.Proofs.Ytnnakikhfacnpaa
