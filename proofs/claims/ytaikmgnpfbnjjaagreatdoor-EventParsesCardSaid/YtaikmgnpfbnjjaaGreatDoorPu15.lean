/- Plain numbers: hexadecimal digits. Contracts of Hex and Unhex. Contracts of Unhex. Contracts of the reference's Unhex. Plain: texts cut at a byte; decimal numbers. -/
import Derived.Test.YtaikmgnpfbnjjaaGreatDoorPu14
import Derived.Laws.RangeAny
import Derived.Laws.RangeString
import Derived.Test.YtaikmgnpfbnjjaaGreatDoorPu02
import Derived.Lib.Split
import Derived.Lib.SplitLaws
import Derived.Lib.Atoi
import Derived.Lib.ItoaNum
namespace Go.Proofs.YtaikmgnpfbnjjaaGreatDoor
namespace Sum
def hexb (d : Nat) : UInt8 := if d < 10 then UInt8.ofNat (48 + d) else UInt8.ofNat (87 + d)
def hv (b : UInt8) : Option Nat := if 48 ≤ b.toNat ∧ b.toNat ≤ 57 then some (b.toNat - 48) else if 97 ≤ b.toNat ∧ b.toNat ≤ 102 then some (b.toNat - 87) else none
def hexL (x : Nat) : Nat → List UInt8
  | 0 => []
  | k + 1 => hexb (x / 16 ^ k % 16) :: hexL x k
theorem hexL_length (x : Nat) : ∀ k, (hexL x k).length = k
  | 0 => rfl
  | k + 1 => by simp [hexL, hexL_length x k]
def unh (acc : Nat) : List UInt8 → Option Nat
  | [] => some acc
  | b :: l => match hv b with
    | none => none
    | some d => unh (acc * 16 + d) l
theorem hexb_hv {b : UInt8} {d : Nat} (h : hv b = some d) : d < 16 ∧ hexb d = b := by
  unfold hv at h
  split at h
  · rename_i hb
    simp at h
    subst h
    refine ⟨by omega, ?_⟩
    unfold hexb
    rw [if_pos (by omega), show 48 + (b.toNat - 48) = b.toNat by omega]
    exact UInt8.ofNat_toNat
  · split at h
    · rename_i hb
      simp at h
      subst h
      refine ⟨by omega, ?_⟩
      unfold hexb
      rw [if_neg (by omega), show 87 + (b.toNat - 87) = b.toNat by omega]
      exact UInt8.ofNat_toNat
    · cases h
theorem unh_some {m : Nat} : ∀ (l : List UInt8) (acc : Nat), unh acc l = some m → ∃ v, v < 16 ^ l.length ∧ m = acc * 16 ^ l.length + v ∧ hexL m l.length = l
  | [], acc, h => by
    simp [unh] at h
    exact ⟨0, by simp, by simp [h], rfl⟩
  | b :: l, acc, h => by
    unfold unh at h
    split at h
    · cases h
    · rename_i d hd
      obtain ⟨hd16, hb⟩ := hexb_hv hd
      obtain ⟨v, hv, hm, hl⟩ := unh_some l _ h
      have hp : 0 < 16 ^ l.length := Nat.pow_pos (by decide)
      refine ⟨d * 16 ^ l.length + v, ?_, ?_, ?_⟩
      · rw [List.length_cons, Nat.pow_succ]
        have : d * 16 ^ l.length ≤ 15 * 16 ^ l.length := Nat.mul_le_mul_right _ (by omega)
        omega
      · rw [hm, List.length_cons, Nat.pow_succ, Nat.add_mul, Nat.mul_assoc acc, Nat.mul_comm 16 (16 ^ l.length)]
        omega
      · rw [List.length_cons]
        unfold hexL
        rw [hl]
        have hq : m / 16 ^ l.length = acc * 16 + d := by
          rw [hm, Nat.mul_comm (acc * 16 + d), Nat.mul_add_div hp, Nat.div_eq_of_lt hv]
          rfl
        rw [hq, show (acc * 16 + d) % 16 = d by omega, hb]
/-- the reference's search -/
def fdTo (b : UInt8) : Nat → Int
  | 0 => -1
  | k + 1 => if b = hexb k then (k : Int) else fdTo b k
def hvI (b : UInt8) : Int := match hv b with
  | none => -1
  | some d => d
set_option maxRecDepth 100000 in
theorem fd16 (b : UInt8) : fdTo b 16 = hvI b := by
  have : ∀ n : Fin 256, fdTo (UInt8.ofNat n.val) 16 = hvI (UInt8.ofNat n.val) := by decide +kernel
  have h := this ⟨b.toNat, b.toNat_lt⟩
  simpa using h
theorem unh_snoc {b : UInt8} : ∀ (l : List UInt8) (acc : Nat), unh acc (l ++ [b]) = match unh acc l with
    | none => none
    | some y => match hv b with
      | none => none
      | some d => some (y * 16 + d)
  | [], acc => by
    simp only [List.nil_append, unh]
  | c :: l, acc => by
    simp only [List.cons_append, unh]
    cases hv c with
    | none => rfl
    | some d => exact unh_snoc l _
theorem unh_lt {y : Nat} (l : List UInt8) (h : unh 0 l = some y) : y < 16 ^ l.length := by
  obtain ⟨v, hv, hm, _⟩ := unh_some l 0 h
  omega
theorem unh_app_none : ∀ (l m : List UInt8) (acc : Nat), unh acc l = none → unh acc (l ++ m) = none
  | [], _, _, h => by simp [unh] at h
  | c :: l, m, acc, h => by
    simp only [List.cons_append]
    unfold unh at h ⊢
    cases hc : hv c with
    | none => rfl
    | some d =>
      rw [hc] at h
      exact unh_app_none l m _ h
end Sum
end Go.Proofs.YtaikmgnpfbnjjaaGreatDoor
namespace Go.Proofs.YtaikmgnpfbnjjaaGreatDoor
open Go.ChangeShapes Go.WideShapes Go.ChangeAt Go.RowKit
attribute [local go_sem] later_cell
namespace Sum
def hexI (d : Nat) : Int := (hexb d).toNat
theorem idx_digit (d : Nat) (h : d < 16) (w : World) : (Instr.index 9 (.string ⟨#[48, 49, 50, 51, 52, 53, 54, 55, 56, 57, 97, 98, 99, 100, 101, 102]⟩) (.int .u64 (d : Int))).run Tryz.prog w = .ok (.int .u8 (hexI d)) w := by
  rcases lt16 h with rfl | rfl | rfl | rfl | rfl | rfl | rfl | rfl | rfl | rfl | rfl | rfl | rfl | rfl | rfl | rfl
  all_goals kernel_rfl
theorem idx_digit_i (d : Nat) (h : d < 16) (w : World) : (Instr.index 9 (.string ⟨#[48, 49, 50, 51, 52, 53, 54, 55, 56, 57, 97, 98, 99, 100, 101, 102]⟩) (.int .i64 (d : Int))).run Tryz.prog w = .ok (.int .u8 (hexI d)) w := by
  rcases lt16 h with rfl | rfl | rfl | rfl | rfl | rfl | rfl | rfl | rfl | rfl | rfl | rfl | rfl | rfl | rfl | rfl
  all_goals kernel_rfl
theorem and64 (x e : Nat) (hx : x < 18446744073709551616) (q : Int) (hq : q = ((x / e : Nat) : Int)) : bits .and .u64 q 15 = ((x / e % 16 : Nat) : Int) := by
  have h : x / e ≤ x := Nat.div_le_self _ _
  rw [hq, show (15 : Int) = ((15 : Nat) : Int) from rfl, u64_and_nat _ 15 (by omega) (by omega), nat_mask4]
def hexS (x : Nat) : ByteArray := ⟨(hexL x 16).toArray⟩

set_option maxHeartbeats 1600000 in
theorem hex_any (x : Nat) (w : World) (hx : x < 18446744073709551616) :
    Calls Tryz.prog 48 #[.int .u64 (x : Int)] w fun e w' => e = .returned (.string (hexS x)) ∧ Below w.heap.size w w' := by
  have hmk : ∀ w, (Instr.makeSlice 106 (.int .i64 16) (.int .i64 16)).run Tryz.prog w = .ok (.slice (some ⟨w.heap.size, 0, none⟩) 16 16) (w.alloc (.cells #[.int .u8 0, .int .u8 0, .int .u8 0, .int .u8 0, .int .u8 0, .int .u8 0, .int .u8 0, .int .u8 0, .int .u8 0, .int .u8 0, .int .u8 0, .int .u8 0, .int .u8 0, .int .u8 0, .int .u8 0, .int .u8 0] 5)) := fun _ => by kernel_rfl
  have HL : Hid (hexL x 16 = [hexb (x / 16 ^ 15 % 16), hexb (x / 16 ^ 14 % 16), hexb (x / 16 ^ 13 % 16), hexb (x / 16 ^ 12 % 16), hexb (x / 16 ^ 11 % 16), hexb (x / 16 ^ 10 % 16), hexb (x / 16 ^ 9 % 16), hexb (x / 16 ^ 8 % 16), hexb (x / 16 ^ 7 % 16), hexb (x / 16 ^ 6 % 16), hexb (x / 16 ^ 5 % 16), hexb (x / 16 ^ 4 % 16), hexb (x / 16 ^ 3 % 16), hexb (x / 16 ^ 2 % 16), hexb (x / 16 ^ 1 % 16), hexb (x / 16 ^ 0 % 16)]) := rfl
  have e0 := and64 x (16 ^ 15) hx ((x : Int) / 1152921504606846976) (by rw [show (16 : Nat) ^ 15 = 1152921504606846976 from rfl]; omega)
  have i0 := idx_digit (x / 16 ^ 15 % 16) (Nat.mod_lt _ (by decide))
  generalize x / 16 ^ 15 % 16 = d0 at *
  have e1 := and64 x (16 ^ 14) hx ((x : Int) / 72057594037927936) (by rw [show (16 : Nat) ^ 14 = 72057594037927936 from rfl]; omega)
  have i1 := idx_digit (x / 16 ^ 14 % 16) (Nat.mod_lt _ (by decide))
  generalize x / 16 ^ 14 % 16 = d1 at *
  have e2 := and64 x (16 ^ 13) hx ((x : Int) / 4503599627370496) (by rw [show (16 : Nat) ^ 13 = 4503599627370496 from rfl]; omega)
  have i2 := idx_digit (x / 16 ^ 13 % 16) (Nat.mod_lt _ (by decide))
  generalize x / 16 ^ 13 % 16 = d2 at *
  have e3 := and64 x (16 ^ 12) hx ((x : Int) / 281474976710656) (by rw [show (16 : Nat) ^ 12 = 281474976710656 from rfl]; omega)
  have i3 := idx_digit (x / 16 ^ 12 % 16) (Nat.mod_lt _ (by decide))
  generalize x / 16 ^ 12 % 16 = d3 at *
  have e4 := and64 x (16 ^ 11) hx ((x : Int) / 17592186044416) (by rw [show (16 : Nat) ^ 11 = 17592186044416 from rfl]; omega)
  have i4 := idx_digit (x / 16 ^ 11 % 16) (Nat.mod_lt _ (by decide))
  generalize x / 16 ^ 11 % 16 = d4 at *
  have e5 := and64 x (16 ^ 10) hx ((x : Int) / 1099511627776) (by rw [show (16 : Nat) ^ 10 = 1099511627776 from rfl]; omega)
  have i5 := idx_digit (x / 16 ^ 10 % 16) (Nat.mod_lt _ (by decide))
  generalize x / 16 ^ 10 % 16 = d5 at *
  have e6 := and64 x (16 ^ 9) hx ((x : Int) / 68719476736) (by rw [show (16 : Nat) ^ 9 = 68719476736 from rfl]; omega)
  have i6 := idx_digit (x / 16 ^ 9 % 16) (Nat.mod_lt _ (by decide))
  generalize x / 16 ^ 9 % 16 = d6 at *
  have e7 := and64 x (16 ^ 8) hx ((x : Int) / 4294967296) (by rw [show (16 : Nat) ^ 8 = 4294967296 from rfl]; omega)
  have i7 := idx_digit (x / 16 ^ 8 % 16) (Nat.mod_lt _ (by decide))
  generalize x / 16 ^ 8 % 16 = d7 at *
  have e8 := and64 x (16 ^ 7) hx ((x : Int) / 268435456) (by rw [show (16 : Nat) ^ 7 = 268435456 from rfl]; omega)
  have i8 := idx_digit (x / 16 ^ 7 % 16) (Nat.mod_lt _ (by decide))
  generalize x / 16 ^ 7 % 16 = d8 at *
  have e9 := and64 x (16 ^ 6) hx ((x : Int) / 16777216) (by rw [show (16 : Nat) ^ 6 = 16777216 from rfl]; omega)
  have i9 := idx_digit (x / 16 ^ 6 % 16) (Nat.mod_lt _ (by decide))
  generalize x / 16 ^ 6 % 16 = d9 at *
  have e10 := and64 x (16 ^ 5) hx ((x : Int) / 1048576) (by rw [show (16 : Nat) ^ 5 = 1048576 from rfl]; omega)
  have i10 := idx_digit (x / 16 ^ 5 % 16) (Nat.mod_lt _ (by decide))
  generalize x / 16 ^ 5 % 16 = d10 at *
  have e11 := and64 x (16 ^ 4) hx ((x : Int) / 65536) (by rw [show (16 : Nat) ^ 4 = 65536 from rfl]; omega)
  have i11 := idx_digit (x / 16 ^ 4 % 16) (Nat.mod_lt _ (by decide))
  generalize x / 16 ^ 4 % 16 = d11 at *
  have e12 := and64 x (16 ^ 3) hx ((x : Int) / 4096) (by rw [show (16 : Nat) ^ 3 = 4096 from rfl]; omega)
  have i12 := idx_digit (x / 16 ^ 3 % 16) (Nat.mod_lt _ (by decide))
  generalize x / 16 ^ 3 % 16 = d12 at *
  have e13 := and64 x (16 ^ 2) hx ((x : Int) / 256) (by rw [show (16 : Nat) ^ 2 = 256 from rfl]; omega)
  have i13 := idx_digit (x / 16 ^ 2 % 16) (Nat.mod_lt _ (by decide))
  generalize x / 16 ^ 2 % 16 = d13 at *
  have e14 := and64 x (16 ^ 1) hx ((x : Int) / 16) (by rw [show (16 : Nat) ^ 1 = 16 from rfl]; omega)
  have i14 := idx_digit (x / 16 ^ 1 % 16) (Nat.mod_lt _ (by decide))
  generalize x / 16 ^ 1 % 16 = d14 at *
  have e15 := and64 x (16 ^ 0) hx ((x : Int)) (by rw [show (16 : Nat) ^ 0 = 1 from rfl]; omega)
  have i15 := idx_digit (x / 16 ^ 0 % 16) (Nat.mod_lt _ (by decide))
  generalize x / 16 ^ 0 % 16 = d15 at *
  clear hx
  have HC := Lib.hid (fun w => conv_new w [hexI d0, hexI d1, hexI d2, hexI d3, hexI d4, hexI d5, hexI d6, hexI d7, hexI d8, hexI d9, hexI d10, hexI d11, hexI d12, hexI d13, hexI d14, hexI d15])
  go_enter Tryz.func48, Tryz.ntmps48
  go_wp2_with fail
  refine wp_loop_rounds 17 ?_
  iterate 16 (rw [rounds_succ]; go_wp2_with fail)
  have hc : (convert 106 9 (.slice (some ⟨w.heap.size, 0, none⟩) 16 16)).run Tryz.prog (w.alloc (.cells #[.int .u8 (hexI d0), .int .u8 (hexI d1), .int .u8 (hexI d2), .int .u8 (hexI d3), .int .u8 (hexI d4), .int .u8 (hexI d5), .int .u8 (hexI d6), .int .u8 (hexI d7), .int .u8 (hexI d8), .int .u8 (hexI d9), .int .u8 (hexI d10), .int .u8 (hexI d11), .int .u8 (hexI d12), .int .u8 (hexI d13), .int .u8 (hexI d14), .int .u8 (hexI d15)] 5)) = .ok (.string (strOfNums [hexI d0, hexI d1, hexI d2, hexI d3, hexI d4, hexI d5, hexI d6, hexI d7, hexI d8, hexI d9, hexI d10, hexI d11, hexI d12, hexI d13, hexI d14, hexI d15])) (w.alloc (.cells #[.int .u8 (hexI d0), .int .u8 (hexI d1), .int .u8 (hexI d2), .int .u8 (hexI d3), .int .u8 (hexI d4), .int .u8 (hexI d5), .int .u8 (hexI d6), .int .u8 (hexI d7), .int .u8 (hexI d8), .int .u8 (hexI d9), .int .u8 (hexI d10), .int .u8 (hexI d11), .int .u8 (hexI d12), .int .u8 (hexI d13), .int .u8 (hexI d14), .int .u8 (hexI d15)] 5)) := HC.out w
  clear e0 i0 e1 i1 e2 i2 e3 i3 e4 i4 e5 i5 e6 i6 e7 i7 e8 i8 e9 i9 e10 i10 e11 i11 e12 i12 e13 i13 e14 i14 e15 i15
  rw [rounds_succ]
  go_wp2_with fail
  go_ret
  refine ⟨?_, by go_grown⟩
  have e : strOfNums [hexI d0, hexI d1, hexI d2, hexI d3, hexI d4, hexI d5, hexI d6, hexI d7, hexI d8, hexI d9, hexI d10, hexI d11, hexI d12, hexI d13, hexI d14, hexI d15] = hexS x := by
    unfold hexS
    rw [HL.out]
    unfold strOfNums hexI
    simp
  rw [← e]
  rfl

end Sum
end Go.Proofs.YtaikmgnpfbnjjaaGreatDoor
namespace Go.Proofs.YtaikmgnpfbnjjaaGreatDoor
open Go.ChangeShapes Go.WideShapes Go.ChangeAt Go.RowKit
attribute [local go_sem] later_cell
namespace Sum
theorem below_iter (w : World) (s : ByteArray) (k : Nat) : Below w.heap.size w (w.iter s k) := (Below.refl _ _).alloc (Nat.le_refl _) _
theorem or64 (y d : Nat) (hy : y < 1152921504606846976) (hd : d < 16) (v : Int) (hv : v = (d : Int)) : Value.int IntKind.u64 (bits BinOp.or IntKind.u64 (IntKind.u64.wrap (↑y * 16)) v) = Value.int IntKind.u64 ((y * 16 + d : Nat) : Int) := by
  congr 1
  have e : IntKind.u64.wrap ((y : Int) * 16) = ((y * 16 : Nat) : Int) := by rw [IntKind.wrap_u64]; omega
  rw [hv, e, u64_or_nat _ _ (by omega) (by omega), nat_join 4 _ _ (by omega) (by omega)]
theorem unh_take {s : ByteArray} {k y : Nat} (h : unh 0 (s.data.toList.take k) = some y) (hk : k < 16) (hs : s.size = 16) : y < 1152921504606846976 := by
  have h1 := unh_lt _ h
  have h2 : (s.data.toList.take k).length = k := by simp; omega
  rw [h2] at h1
  have h3 : 16 ^ k ≤ 16 ^ 15 := Nat.pow_le_pow_right (by decide) (by omega)
  have h4 : (16 : Nat) ^ 15 = 1152921504606846976 := rfl
  omega
theorem unh_fail {s : ByteArray} {k y : Nat} (h : unh 0 (s.data.toList.take k) = some y) (hk : k < s.size) (hv0 : hv s[k] = none) : unh 0 s.data.toList = none := by
  rw [← List.take_append_drop (k + 1) s.data.toList]
  apply unh_app_none
  rw [take_snoc s k hk, unh_snoc, h, hv0]
theorem unh_go {s : ByteArray} {k y d : Nat} (h : unh 0 (s.data.toList.take k) = some y) (hk : k < s.size) (hd : hv s[k] = some d) : unh 0 (s.data.toList.take (k + 1)) = some (y * 16 + d) := by
  rw [take_snoc s k hk, unh_snoc, h, hd]
/-- what Unhex returns -/
def unhV (s : ByteArray) : Nat × Int := if s.size = 16 then (match unh 0 s.data.toList with | none => (0, 2) | some x => (x, 0)) else (0, 2)
theorem unhV_none {s : ByteArray} (h : unh 0 s.data.toList = none) : unhV s = (0, 2) := by unfold unhV; rw [h]; split <;> rfl
theorem unhV_some {s : ByteArray} {x : Nat} (hs : s.size = 16) (h : unh 0 s.data.toList = some x) : unhV s = (x, 0) := by unfold unhV; rw [h, if_pos hs]
theorem unhV_size {s : ByteArray} (hs : ¬ s.size = 16) : unhV s = (0, 2) := by unfold unhV; rw [if_neg hs]
theorem ret_tu {a c : Int} {b d : Int} (h : (a, b) = (c, d)) : Ending.returned (.tuple #[.int .u64 a, .int .i64 b]) = .returned (.tuple #[.int .u64 c, .int .i64 d]) := by injection h with h1 h2; rw [h1, h2]

theorem unhex_size (s : ByteArray) (w : World) (hs : ¬ s.size = 16) :
    Calls Tryz.prog 91 #[.string s] w fun e w' => e = .returned (.tuple #[.int .u64 (unhV s).1, .int .i64 (unhV s).2]) ∧ Below w.heap.size w w' := by
  have hd : ((s.size : Int) != 16) = true := by simp; omega
  have HV := Lib.hid (unhV_size hs)
  clear hs
  go_enter Tryz.func91, Tryz.ntmps91
  go_wp2_with fail
  go_ret2
  exact ⟨ret_tu (by rw [HV.out]; rfl), Below.refl _ _⟩

set_option maxHeartbeats 800000 in
theorem unhex_ok (s : ByteArray) (w : World) (hs : s.size = 16) :
    Calls Tryz.prog 91 #[.string s] w fun e w' => e = .returned (.tuple #[.int .u64 (unhV s).1, .int .i64 (unhV s).2]) ∧ Below w.heap.size w w' := by
  have hd : ((s.size : Int) != 16) = false := by simp; omega
  have HS := Lib.hid hs
  have hs1 : s.size ≤ 16 := by omega
  have hs2 : 16 ≤ s.size := by omega
  clear hs
  go_enter Tryz.func91, Tryz.ntmps91
  go_wp2_with fail
  go_loopw [4] (fun x wr => ∃ k y : Nat, k ≤ 16 ∧ wr = w.iter s k ∧ x = .int .u64 y ∧ unh 0 (s.data.toList.take k) = some y) (fun _ wr => 16 - wr.iterPos w.heap.size)
  case atStart => exact ⟨0, 0, by omega, rfl, rfl, rfl⟩
  case round =>
    obtain ⟨k, y, hk, rfl, rfl, hy⟩ := hrel
    have HY := Lib.hid hy
    clear hy
    by_cases hlt : k < 16
    · have hks : k < s.size := by omega
      generalize hb : s[k] = b
      by_cases ha : b.toNat < 128
      · have hnx : ∀ ty, (Instr.next (.pointer (some ⟨w.heap.size, 0, none⟩)) true ty).run Tryz.prog (w.iter s k) = .ok (.tuple #[.bool true, .int .i64 k, .int .i32 b.toNat]) (w.iter s (k + 1)) := fun ty => by
          rw [← hb]; exact run_next_ascii w s k ty hks (by rw [hb]; exact ha)
        have HB := Lib.hid hb
        clear hb
        by_cases h1 : 48 ≤ b.toNat ∧ b.toNat ≤ 57
        · obtain ⟨h1a, h1b⟩ := h1
          go_wp2_with fail
          go_roundw
          case rel =>
            have hv1 : hv s[k] = some (b.toNat - 48) := by rw [HB.out]; unfold hv; rw [if_pos ⟨h1a, h1b⟩]
            exact ⟨k + 1, y * 16 + (b.toNat - 48), by omega, rfl, or64 y _ (unh_take HY.out hlt HS.out) (by omega) _ (by omega), unh_go HY.out hks hv1⟩
          case measure => simp; omega
        · have hf : decide ((48 : Int) ≤ (b.toNat : Int)) = false ∨ (decide ((48 : Int) ≤ (b.toNat : Int)) = true ∧ decide ((b.toNat : Int) ≤ 57) = false) := by
            by_cases h2 : 48 ≤ b.toNat
            · right; exact ⟨by simp; omega, by simp; omega⟩
            · left; simp; omega
          have HF := Lib.hid h1
          clear h1
          by_cases h2 : 97 ≤ b.toNat ∧ b.toNat ≤ 102
          · obtain ⟨h2a, h2b⟩ := h2
            rcases hf with f1 | ⟨f1, f2⟩
            · exfalso; simp at f1; omega
            · go_wp2_with fail
              go_roundw
              case rel =>
                have hv1 : hv s[k] = some (b.toNat - 87) := by rw [HB.out]; unfold hv; rw [if_neg HF.out, if_pos ⟨h2a, h2b⟩]
                exact ⟨k + 1, y * 16 + (b.toNat - 87), by omega, rfl, or64 y _ (unh_take HY.out hlt HS.out) (by omega) _ (by omega), unh_go HY.out hks hv1⟩
              case measure => simp; omega
          · have hv1 : hv s[k] = none := by rw [HB.out]; unfold hv; rw [if_neg HF.out, if_neg h2]
            have HV := Lib.hid (unhV_none (unh_fail HY.out hks hv1))
            clear hv1
            have hg : decide ((97 : Int) ≤ (b.toNat : Int)) = false ∨ (decide ((97 : Int) ≤ (b.toNat : Int)) = true ∧ decide ((b.toNat : Int) ≤ 102) = false) := by
              by_cases h3 : 97 ≤ b.toNat
              · right; exact ⟨by simp; omega, by simp; omega⟩
              · left; simp; omega
            clear h2
            rcases hf with f1 | ⟨f1, f2⟩ <;> rcases hg with g1 | ⟨g1, g2⟩
            all_goals
              go_wp2_with fail
              go_ret2
              exact ⟨ret_tu (by rw [HV.out]; rfl), below_iter _ _ _⟩
      · have hdec := decode_high s k hks (by rw [hb]; omega)
        have hnx : ∀ ty, (Instr.next (.pointer (some ⟨w.heap.size, 0, none⟩)) true ty).run Tryz.prog (w.iter s k) = _ := fun ty => run_next_any w s k ty hks
        have hv1 : hv s[k] = none := by
          rw [hb]; unfold hv; rw [if_neg (by omega), if_neg (by omega)]
        have HV := Lib.hid (unhV_none (unh_fail HY.out hks hv1))
        clear hv1 hb
        obtain ⟨hd1, _⟩ := hdec
        generalize (Utf8.decode s k).1 = rr at *
        generalize k + (Utf8.decode s k).2 = kk at *
        have f2 : decide ((rr : Int) ≤ 57) = false := by simp; omega
        have g2 : decide ((rr : Int) ≤ 102) = false := by simp; omega
        go_wp2_with fail
        go_ret2
        exact ⟨ret_tu (by rw [HV.out]; rfl), below_iter _ _ _⟩
    · have hnx : ∀ ty, (Instr.next (.pointer (some ⟨w.heap.size, 0, none⟩)) true ty).run Tryz.prog (w.iter s k) = _ := fun ty => run_next_end w s k ty (by omega)
      obtain rfl : k = 16 := by omega
      have HV : Hid (unhV s = (y, 0)) := unhV_some HS.out (by rw [← take_all s 16 (by omega)]; exact HY.out)
      go_wp2_with fail
      go_ret2
      exact ⟨ret_tu (by rw [HV.out]), below_iter _ _ _⟩
end Sum
end Go.Proofs.YtaikmgnpfbnjjaaGreatDoor
namespace Go.Proofs.YtaikmgnpfbnjjaaGreatDoor
open Go.ChangeShapes Go.WideShapes Go.ChangeAt Go.RowKit
attribute [local go_sem] later_cell
namespace Sum
theorem fdTo_yes {b : UInt8} {k : Nat} (h : b = hexb k) : fdTo b (k + 1) = k := by unfold fdTo; rw [if_pos h]
theorem fdTo_no {b : UInt8} {k : Nat} (h : ¬ b = hexb k) : fdTo b (k + 1) = fdTo b k := by rw [fdTo]; rw [if_neg h]
theorem hexI_eq {b : UInt8} {k : Nat} : ((b.toNat : Int) == hexI k) = decide (b = hexb k) := by
  unfold hexI
  by_cases h : b = hexb k
  · subst h; simp
  · have : ¬ b.toNat = (hexb k).toNat := fun e => h (UInt8.toNat_inj.1 e)
    have h2 : ¬ (b.toNat : Int) = ((hexb k).toNat : Int) := by omega
    simp [h, h2]

theorem refUnhex_size (s : ByteArray) (w : World) (hs : ¬ s.size = 16) :
    Calls Tryz.prog 63 #[.string s] w fun e w' => e = .returned (.tuple #[.int .u64 (unhV s).1, .int .i64 (unhV s).2]) ∧ Below w.heap.size w w' := by
  have hd : ((s.size : Int) != 16) = true := by simp; omega
  have HV := Lib.hid (unhV_size hs)
  clear hs
  go_enter Tryz.func63, Tryz.ntmps63
  go_wp2_with fail
  go_ret2
  exact ⟨ret_tu (by rw [HV.out]; rfl), Below.refl _ _⟩

theorem wr64 (y d : Nat) (hy : y < 1152921504606846976) (hd : d < 16) (a c : Int) (ha : a = (y : Int) * 16) (hc : c = (d : Int)) : IntKind.u64.wrap (IntKind.u64.wrap a + c) = ((y * 16 + d : Nat) : Int) := by
  subst ha hc
  rw [IntKind.wrap_u64, IntKind.wrap_u64]
  omega
set_option maxHeartbeats 800000 in
theorem refUnhex_ok (s : ByteArray) (w : World) (hs : s.size = 16) :
    Calls Tryz.prog 63 #[.string s] w fun e w' => e = .returned (.tuple #[.int .u64 (unhV s).1, .int .i64 (unhV s).2]) ∧ Below w.heap.size w w' := by
  have hd : ((s.size : Int) != 16) = false := by simp; omega
  have HS := Lib.hid hs
  have hs1 : s.size ≤ 16 := by omega
  have hs2 : 16 ≤ s.size := by omega
  have ID := Lib.hid idx_digit_i
  clear hs
  go_enter Tryz.func63, Tryz.ntmps63
  go_wp2_with fail
  go_loopw [4, 5] (fun x i wr => ∃ k y : Nat, k ≤ 16 ∧ i = .int .i64 k ∧ x = .int .u64 y ∧ unh 0 (s.data.toList.take k) = some y ∧ Below w.heap.size w wr) (fun _ i _ => 16 - (intOf i).toNat)
  case atStart => exact ⟨0, 0, by omega, rfl, rfl, rfl, Below.refl _ _⟩
  case round =>
    obtain ⟨k, y, hk, rfl, rfl, hy, B⟩ := hrel
    have HY := Lib.hid hy
    clear hy
    by_cases hlt : k < 16
    · have hks : k < s.size := by omega
      have hdk : decide ((k : Int) < 16) = true := by simp; omega
      go_wp2_with fail
      obtain ⟨wo, rfl⟩ : ∃ wo : World, wo = wr := ⟨_, rfl⟩
      go_loopw [6, 7] (fun d j wr => ∃ j' : Nat, j' ≤ 16 ∧ j = .int .i64 j' ∧ d = .int .i64 (fdTo s[k] j') ∧ Below w.heap.size w wr) (fun _ j _ => 16 - (intOf j).toNat)
      case atStart => exact ⟨0, by omega, rfl, rfl, B⟩
      case round =>
        obtain ⟨j, hj, rfl, rfl, B2⟩ := hrel
        clear B
        by_cases hlj : j < 16
        · have hdj : decide ((j : Int) < 16) = true := by simp; omega
          have hi := ID.out j hlj
          by_cases hb : s[k] = hexb j
          · have hq : ((s[k].toNat : Int) == hexI j) = true := by rw [hexI_eq]; simpa using hb
            have HB := Lib.hid hb
            clear hb
            go_wp2_with fail
            go_quiet (fail)
            go_wp2_with fail
            go_roundw
            case rel => exact ⟨j + 1, by omega, by go_num, by rw [fdTo_yes HB.out], ⟨B2.os, B2.tape, B2.output, B2.size, B2.block⟩⟩
            case measure => simp [intOf]; omega
          · have hq : ((s[k].toNat : Int) == hexI j) = false := by rw [hexI_eq]; simpa using hb
            have HB := Lib.hid hb
            clear hb
            go_wp2_with fail
            go_quiet (fail)
            go_wp2_with fail
            go_roundw
            case rel => exact ⟨j + 1, by omega, by go_num, by rw [fdTo_no HB.out], ⟨B2.os, B2.tape, B2.output, B2.size, B2.block⟩⟩
            case measure => simp [intOf]; omega
        · have hdj : decide ((j : Int) < 16) = false := by simp; omega
          obtain rfl : j = 16 := by omega
          have hf := fd16 s[k]
          cases hc : hv s[k] with
          | none =>
            have e : fdTo s[k] 16 = -1 := by rw [hf]; unfold hvI; rw [hc]
            rw [e]
            have HV := Lib.hid (unhV_none (unh_fail HY.out hks hc))
            clear e hf hc
            go_wp2_with fail
            go_ret2
            exact ⟨ret_tu (by rw [HV.out]; rfl), B2⟩
          | some d =>
            have e : fdTo s[k] 16 = (d : Int) := by rw [hf]; unfold hvI; rw [hc]
            rw [e]
            have HC := Lib.hid hc
            have hd16 := (hexb_hv hc).1
            clear e hf hc
            go_wp2_with fail
            go_roundw
            case rel => exact ⟨k + 1, y * 16 + d, by omega, by go_num, congrArg (Value.int .u64) (wr64 y d (unh_take HY.out hlt HS.out) hd16 _ _ rfl rfl), unh_go HY.out hks HC.out, B2⟩
            case measure => simp [intOf]; omega
    · have hdk : decide ((k : Int) < 16) = false := by simp; omega
      obtain rfl : k = 16 := by omega
      have HV : Hid (unhV s = (y, 0)) := unhV_some HS.out (by rw [← take_all s 16 (by omega)]; exact HY.out)
      go_wp2_with fail
      go_ret2
      exact ⟨ret_tu (by rw [HV.out]), B⟩
theorem unhex_all (s : ByteArray) (w : World) :
    Calls Tryz.prog 91 #[.string s] w fun e w' => e = .returned (.tuple #[.int .u64 (unhV s).1, .int .i64 (unhV s).2]) ∧ Below w.heap.size w w' := by
  by_cases h : s.size = 16
  · exact unhex_ok s w h
  · exact unhex_size s w h
theorem refUnhex_all (s : ByteArray) (w : World) :
    Calls Tryz.prog 63 #[.string s] w fun e w' => e = .returned (.tuple #[.int .u64 (unhV s).1, .int .i64 (unhV s).2]) ∧ Below w.heap.size w w' := by
  by_cases h : s.size = 16
  · exact refUnhex_ok s w h
  · exact refUnhex_size s w h
end Sum
end Go.Proofs.YtaikmgnpfbnjjaaGreatDoor
namespace Go.Proofs.YtaikmgnpfbnjjaaGreatDoor.Se
open Go.ChangeShapes Go.WideShapes Go.ChangeAt Go.RowKit
set_option linter.unusedVariables false
set_option linter.unusedSimpArgs false
/-- a byte put ahead of the first part -/
def consH (x : UInt8) : List (List UInt8) → List (List UInt8)
  | [] => [[x]]
  | y :: ys => (x :: y) :: ys
/-- the parts of a list between separators -/
def splitL (c : UInt8) : List UInt8 → List (List UInt8)
  | [] => [[]]
  | x :: r => if x = c then [] :: splitL c r else consH x (splitL c r)
theorem splitL_ne (c : UInt8) : ∀ l, splitL c l ≠ []
  | [] => by simp [splitL]
  | x :: r => by
    unfold splitL
    split
    · simp
    · cases h : splitL c r with
      | nil => exact absurd h (splitL_ne c r)
      | cons y ys => simp [consH]
theorem index_eq (c : UInt8) (l : List UInt8) : Lib.index (c :: l) [c] = ((0 : Nat) : Int) := by rw [Lib.index]; simp [List.isPrefixOf]
theorem index_ne (b c : UInt8) (l : List UInt8) (h : b ≠ c) : Lib.index (b :: l) [c] = if Lib.index l [c] == -1 then -1 else Lib.index l [c] + 1 := by
  have hp : ([c] : List UInt8).isPrefixOf (b :: l) = false := by simp [List.isPrefixOf, Ne.symm h]
  rw [Lib.index, hp]; simp
theorem splitK_one (c : UInt8) : ∀ l : List UInt8, Lib.splitK [c] 0 (Lib.count l [c]) l = splitL c l
  | [] => by
    rw [Lib.count_miss (by simp [Lib.index])]
    rfl
  | x :: r => by
    by_cases h : x = c
    · subst h
      rw [Lib.count_cons_eq, Nat.add_comm, Lib.splitK, index_eq]
      rw [if_neg (by decide), splitL, if_pos rfl]
      show ([] : List UInt8) :: Lib.splitK [x] 0 _ _ = _
      rw [show ((((0 : Nat) : Int).toNat) + [x].length) = 1 from rfl, List.drop_succ_cons, List.drop_zero, splitK_one x r]
    · rw [Lib.count_cons_ne x c r h, splitL, if_neg h, ← splitK_one c r]
      by_cases hm : Lib.index r [c] = -1
      · rw [Lib.count_miss hm]
        rfl
      · have hge := Lib.index_ge r [c]
        obtain ⟨j, hj⟩ : ∃ j : Nat, Lib.index r [c] = j := ⟨(Lib.index r [c]).toNat, by omega⟩
        have hc : Lib.count r [c] = Lib.count (r.drop (j + [c].length)) [c] + 1 := by rw [Lib.count_hit (by simp) hj]; omega
        have hix : Lib.index (x :: r) [c] = ((j + 1 : Nat) : Int) := by rw [index_ne x c r h, if_neg (fun e => hm (beq_iff_eq.1 e)), hj]; omega
        rw [hc, Lib.splitK, Lib.splitK, hix, hj]
        rw [if_neg (fun e => by have := beq_iff_eq.1 e; omega), if_neg (fun e => by have := beq_iff_eq.1 e; omega)]
        simp only [Int.toNat_natCast, consH, List.length_cons, List.length_nil, Nat.zero_add, Nat.add_zero, List.take_succ_cons]
        rw [show j + 1 + 1 = (j + 1) + 1 from rfl, List.drop_succ_cons]
/-- the parts of a text between separators -/
def splitS (c : UInt8) (s : ByteArray) : List ByteArray := (splitL c s.data.toList).map fun l => ⟨l.toArray⟩
theorem back (s : ByteArray) : (⟨s.data.toList.toArray⟩ : ByteArray) = s := rfl
theorem splitB_one (c : UInt8) (s : ByteArray) : Lib.splitB ⟨#[c]⟩ 0 (Lib.countB s ⟨#[c]⟩) s = splitS c s := by
  have h := Lib.splitB_data ⟨#[c]⟩ 0 (Lib.countB s ⟨#[c]⟩) s
  have h2 := congrArg (List.map fun l : List UInt8 => (⟨l.toArray⟩ : ByteArray)) h
  rw [List.map_map] at h2
  rw [show (((fun l : List UInt8 => (⟨l.toArray⟩ : ByteArray)) ∘ fun x : ByteArray => x.data.toList)) = id from rfl, List.map_id] at h2
  rw [h2]
  show List.map _ (Lib.splitK [c] 0 (Lib.count s.data.toList [c]) s.data.toList) = _
  rw [splitK_one]
  rfl
theorem countB_one (c : UInt8) (s : ByteArray) : Lib.countB s ⟨#[c]⟩ + 1 = (splitS c s).length := by
  rw [← splitB_one, Lib.splitB_all ⟨#[c]⟩ (Nat.le_refl 1) 0 _ s rfl]
theorem splitL_len (c : UInt8) : ∀ l, (splitL c l).length ≤ l.length + 1
  | [] => by simp [splitL]
  | x :: r => by
    have ih := splitL_len c r
    unfold splitL
    split
    · simp; exact ih
    · cases h : splitL c r with
      | nil => simp [consH]
      | cons y ys => rw [h] at ih; simp [consH] at ih ⊢; omega
theorem splitS_len (c : UInt8) (s : ByteArray) : (splitS c s).length ≤ s.size + 1 := by
  unfold splitS
  rw [List.length_map]
  exact splitL_len c _
theorem splitS_pos (c : UInt8) (s : ByteArray) : 0 < (splitS c s).length := by
  unfold splitS
  rw [List.length_map]
  exact List.length_pos_iff.2 (splitL_ne c _)
end Go.Proofs.YtaikmgnpfbnjjaaGreatDoor.Se
