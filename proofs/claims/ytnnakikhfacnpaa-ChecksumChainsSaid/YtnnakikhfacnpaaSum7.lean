/- Contracts of the reference's Unhex. -/
import Derived.Test.YtnnakikhfacnpaaSum6
namespace Go.Proofs.Ytnnakikhfacnpaa
open Go.ChangeShapes Go.WideShapes Go.ChangeAt Go.RowKit
attribute [local go_sem] later_cell
namespace Sum
theorem fdTo_yes {b : UInt8} {k : Nat} (h : b = hexb k) : fdTo b (k + 1) = k := by unfold fdTo; rw [if_pos h]
theorem fdTo_no {b : UInt8} {k : Nat} (h : ¬ b = hexb k) : fdTo b (k + 1) = fdTo b k := by rw [fdTo]; rw [if_neg h]
theorem hexI_eq {b : UInt8} {k : Nat} : ((b.toNat : Int) == hexI k) = decide (b = hexb k) := by
  unfold hexI
  by_cases h : b = hexb k
  · subst h; simp
  · have : ¬ b.toNat = (hexb k).toNat := fun e => h (UInt8.toNat_inj.1 e)
    have h2 : ¬ (b.toNat : Int) = ((hexb k).toNat : Int) := by omega
    simp [h, h2]

theorem refUnhex_size (s : ByteArray) (w : World) (hs : ¬ s.size = 16) :
    Calls Try.prog 36 #[.string s] w fun e w' => e = .returned (.tuple #[.int .u64 (unhV s).1, .int .i64 (unhV s).2]) ∧ Below w.heap.size w w' := by
  have hd : ((s.size : Int) != 16) = true := by simp; omega
  have HV := Lib.hid (unhV_size hs)
  clear hs
  go_enter Try.func36, Try.ntmps36
  go_wp2_with fail
  go_ret2
  exact ⟨ret_tu (by rw [HV.out]; rfl), Below.refl _ _⟩

theorem wr64 (y d : Nat) (hy : y < 1152921504606846976) (hd : d < 16) (a c : Int) (ha : a = (y : Int) * 16) (hc : c = (d : Int)) : IntKind.u64.wrap (IntKind.u64.wrap a + c) = ((y * 16 + d : Nat) : Int) := by
  subst ha hc
  rw [IntKind.wrap_u64, IntKind.wrap_u64]
  omega
set_option maxHeartbeats 800000 in
theorem refUnhex_ok (s : ByteArray) (w : World) (hs : s.size = 16) :
    Calls Try.prog 36 #[.string s] w fun e w' => e = .returned (.tuple #[.int .u64 (unhV s).1, .int .i64 (unhV s).2]) ∧ Below w.heap.size w w' := by
  have hd : ((s.size : Int) != 16) = false := by simp; omega
  have HS := Lib.hid hs
  have hs1 : s.size ≤ 16 := by omega
  have hs2 : 16 ≤ s.size := by omega
  have ID := Lib.hid idx_digit_i
  clear hs
  go_enter Try.func36, Try.ntmps36
  go_wp2_with fail
  go_loopw [4, 5] (fun x i wr => ∃ k y : Nat, k ≤ 16 ∧ i = .int .i64 k ∧ x = .int .u64 y ∧ unh 0 (s.data.toList.take k) = some y ∧ Below w.heap.size w wr) (fun _ i _ => 16 - (intOf i).toNat)
  case atStart => exact ⟨0, 0, by omega, rfl, rfl, rfl, Below.refl _ _⟩
  case round =>
    obtain ⟨k, y, hk, rfl, rfl, hy, B⟩ := hrel
    have HY := Lib.hid hy
    clear hy
    by_cases hlt : k < 16
    · have hks : k < s.size := by omega
      have hdk : decide ((k : Int) < 16) = true := by simp; omega
      go_wp2_with fail
      obtain ⟨wo, rfl⟩ : ∃ wo : World, wo = wr := ⟨_, rfl⟩
      go_loopw [6, 7] (fun d j wr => ∃ j' : Nat, j' ≤ 16 ∧ j = .int .i64 j' ∧ d = .int .i64 (fdTo s[k] j') ∧ Below w.heap.size w wr) (fun _ j _ => 16 - (intOf j).toNat)
      case atStart => exact ⟨0, by omega, rfl, rfl, B⟩
      case round =>
        obtain ⟨j, hj, rfl, rfl, B2⟩ := hrel
        clear B
        by_cases hlj : j < 16
        · have hdj : decide ((j : Int) < 16) = true := by simp; omega
          have hi := ID.out j hlj
          by_cases hb : s[k] = hexb j
          · have hq : ((s[k].toNat : Int) == hexI j) = true := by rw [hexI_eq]; simpa using hb
            have HB := Lib.hid hb
            clear hb
            go_wp2_with fail
            go_quiet (fail)
            go_wp2_with fail
            go_roundw
            case rel => exact ⟨j + 1, by omega, by go_num, by rw [fdTo_yes HB.out], ⟨B2.os, B2.tape, B2.output, B2.size, B2.block⟩⟩
            case measure => simp [intOf]; omega
          · have hq : ((s[k].toNat : Int) == hexI j) = false := by rw [hexI_eq]; simpa using hb
            have HB := Lib.hid hb
            clear hb
            go_wp2_with fail
            go_quiet (fail)
            go_wp2_with fail
            go_roundw
            case rel => exact ⟨j + 1, by omega, by go_num, by rw [fdTo_no HB.out], ⟨B2.os, B2.tape, B2.output, B2.size, B2.block⟩⟩
            case measure => simp [intOf]; omega
        · have hdj : decide ((j : Int) < 16) = false := by simp; omega
          obtain rfl : j = 16 := by omega
          have hf := fd16 s[k]
          cases hc : hv s[k] with
          | none =>
            have e : fdTo s[k] 16 = -1 := by rw [hf]; unfold hvI; rw [hc]
            rw [e]
            have HV := Lib.hid (unhV_none (unh_fail HY.out hks hc))
            clear e hf hc
            go_wp2_with fail
            go_ret2
            exact ⟨ret_tu (by rw [HV.out]; rfl), B2⟩
          | some d =>
            have e : fdTo s[k] 16 = (d : Int) := by rw [hf]; unfold hvI; rw [hc]
            rw [e]
            have HC := Lib.hid hc
            have hd16 := (hexb_hv hc).1
            clear e hf hc
            go_wp2_with fail
            go_roundw
            case rel => exact ⟨k + 1, y * 16 + d, by omega, by go_num, congrArg (Value.int .u64) (wr64 y d (unh_take HY.out hlt HS.out) hd16 _ _ rfl rfl), unh_go HY.out hks HC.out, B2⟩
            case measure => simp [intOf]; omega
    · have hdk : decide ((k : Int) < 16) = false := by simp; omega
      obtain rfl : k = 16 := by omega
      have HV : Hid (unhV s = (y, 0)) := unhV_some HS.out (by rw [← take_all s 16 (by omega)]; exact HY.out)
      go_wp2_with fail
      go_ret2
      exact ⟨ret_tu (by rw [HV.out]), B⟩
theorem unhex_all (s : ByteArray) (w : World) :
    Calls Try.prog 34 #[.string s] w fun e w' => e = .returned (.tuple #[.int .u64 (unhV s).1, .int .i64 (unhV s).2]) ∧ Below w.heap.size w w' := by
  by_cases h : s.size = 16
  · exact unhex_ok s w h
  · exact unhex_size s w h
theorem refUnhex_all (s : ByteArray) (w : World) :
    Calls Try.prog 36 #[.string s] w fun e w' => e = .returned (.tuple #[.int .u64 (unhV s).1, .int .i64 (unhV s).2]) ∧ Below w.heap.size w w' := by
  by_cases h : s.size = 16
  · exact refUnhex_ok s w h
  · exact refUnhex_size s w h
end Sum
end Go.Proofs.Ytnnakikhfacnpaa
