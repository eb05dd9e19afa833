/- Contracts of Unhex. -/
import Derived.Test.YtnnakikhfacnpaaSum5
import Derived.Laws.RangeString
namespace Go.Proofs.Ytnnakikhfacnpaa
open Go.ChangeShapes Go.WideShapes Go.ChangeAt Go.RowKit
attribute [local go_sem] later_cell
namespace Sum
theorem below_iter (w : World) (s : ByteArray) (k : Nat) : Below w.heap.size w (w.iter s k) := (Below.refl _ _).alloc (Nat.le_refl _) _
theorem or64 (y d : Nat) (hy : y < 1152921504606846976) (hd : d < 16) (v : Int) (hv : v = (d : Int)) : Value.int IntKind.u64 (bits BinOp.or IntKind.u64 (IntKind.u64.wrap (↑y * 16)) v) = Value.int IntKind.u64 ((y * 16 + d : Nat) : Int) := by
  congr 1
  have e : IntKind.u64.wrap ((y : Int) * 16) = ((y * 16 : Nat) : Int) := by rw [IntKind.wrap_u64]; omega
  rw [hv, e, u64_or_nat _ _ (by omega) (by omega), nat_join 4 _ _ (by omega) (by omega)]
theorem unh_take {s : ByteArray} {k y : Nat} (h : unh 0 (s.data.toList.take k) = some y) (hk : k < 16) (hs : s.size = 16) : y < 1152921504606846976 := by
  have h1 := unh_lt _ h
  have h2 : (s.data.toList.take k).length = k := by simp; omega
  rw [h2] at h1
  have h3 : 16 ^ k ≤ 16 ^ 15 := Nat.pow_le_pow_right (by decide) (by omega)
  have h4 : (16 : Nat) ^ 15 = 1152921504606846976 := rfl
  omega
theorem unh_fail {s : ByteArray} {k y : Nat} (h : unh 0 (s.data.toList.take k) = some y) (hk : k < s.size) (hv0 : hv s[k] = none) : unh 0 s.data.toList = none := by
  rw [← List.take_append_drop (k + 1) s.data.toList]
  apply unh_app_none
  rw [take_snoc s k hk, unh_snoc, h, hv0]
theorem unh_go {s : ByteArray} {k y d : Nat} (h : unh 0 (s.data.toList.take k) = some y) (hk : k < s.size) (hd : hv s[k] = some d) : unh 0 (s.data.toList.take (k + 1)) = some (y * 16 + d) := by
  rw [take_snoc s k hk, unh_snoc, h, hd]
/-- what Unhex returns -/
def unhV (s : ByteArray) : Nat × Int := if s.size = 16 then (match unh 0 s.data.toList with | none => (0, 2) | some x => (x, 0)) else (0, 2)
theorem unhV_none {s : ByteArray} (h : unh 0 s.data.toList = none) : unhV s = (0, 2) := by unfold unhV; rw [h]; split <;> rfl
theorem unhV_some {s : ByteArray} {x : Nat} (hs : s.size = 16) (h : unh 0 s.data.toList = some x) : unhV s = (x, 0) := by unfold unhV; rw [h, if_pos hs]
theorem unhV_size {s : ByteArray} (hs : ¬ s.size = 16) : unhV s = (0, 2) := by unfold unhV; rw [if_neg hs]
theorem ret_tu {a c : Int} {b d : Int} (h : (a, b) = (c, d)) : Ending.returned (.tuple #[.int .u64 a, .int .i64 b]) = .returned (.tuple #[.int .u64 c, .int .i64 d]) := by injection h with h1 h2; rw [h1, h2]

theorem unhex_size (s : ByteArray) (w : World) (hs : ¬ s.size = 16) :
    Calls Try.prog 34 #[.string s] w fun e w' => e = .returned (.tuple #[.int .u64 (unhV s).1, .int .i64 (unhV s).2]) ∧ Below w.heap.size w w' := by
  have hd : ((s.size : Int) != 16) = true := by simp; omega
  have HV := Lib.hid (unhV_size hs)
  clear hs
  go_enter Try.func34, Try.ntmps34
  go_wp2_with fail
  go_ret2
  exact ⟨ret_tu (by rw [HV.out]; rfl), Below.refl _ _⟩

set_option maxHeartbeats 800000 in
theorem unhex_ok (s : ByteArray) (w : World) (hs : s.size = 16) :
    Calls Try.prog 34 #[.string s] w fun e w' => e = .returned (.tuple #[.int .u64 (unhV s).1, .int .i64 (unhV s).2]) ∧ Below w.heap.size w w' := by
  have hd : ((s.size : Int) != 16) = false := by simp; omega
  have HS := Lib.hid hs
  have hs1 : s.size ≤ 16 := by omega
  have hs2 : 16 ≤ s.size := by omega
  clear hs
  go_enter Try.func34, Try.ntmps34
  go_wp2_with fail
  go_loopw [4] (fun x wr => ∃ k y : Nat, k ≤ 16 ∧ wr = w.iter s k ∧ x = .int .u64 y ∧ unh 0 (s.data.toList.take k) = some y) (fun _ wr => 16 - wr.iterPos w.heap.size)
  case atStart => exact ⟨0, 0, by omega, rfl, rfl, rfl⟩
  case round =>
    obtain ⟨k, y, hk, rfl, rfl, hy⟩ := hrel
    have HY := Lib.hid hy
    clear hy
    by_cases hlt : k < 16
    · have hks : k < s.size := by omega
      generalize hb : s[k] = b
      by_cases ha : b.toNat < 128
      · have hnx : ∀ ty, (Instr.next (.pointer (some ⟨w.heap.size, 0, none⟩)) true ty).run Try.prog (w.iter s k) = .ok (.tuple #[.bool true, .int .i64 k, .int .i32 b.toNat]) (w.iter s (k + 1)) := fun ty => by
          rw [← hb]; exact run_next_ascii w s k ty hks (by rw [hb]; exact ha)
        have HB := Lib.hid hb
        clear hb
        by_cases h1 : 48 ≤ b.toNat ∧ b.toNat ≤ 57
        · obtain ⟨h1a, h1b⟩ := h1
          go_wp2_with fail
          go_roundw
          case rel =>
            have hv1 : hv s[k] = some (b.toNat - 48) := by rw [HB.out]; unfold hv; rw [if_pos ⟨h1a, h1b⟩]
            exact ⟨k + 1, y * 16 + (b.toNat - 48), by omega, rfl, or64 y _ (unh_take HY.out hlt HS.out) (by omega) _ (by omega), unh_go HY.out hks hv1⟩
          case measure => simp; omega
        · have hf : decide ((48 : Int) ≤ (b.toNat : Int)) = false ∨ (decide ((48 : Int) ≤ (b.toNat : Int)) = true ∧ decide ((b.toNat : Int) ≤ 57) = false) := by
            by_cases h2 : 48 ≤ b.toNat
            · right; exact ⟨by simp; omega, by simp; omega⟩
            · left; simp; omega
          have HF := Lib.hid h1
          clear h1
          by_cases h2 : 97 ≤ b.toNat ∧ b.toNat ≤ 102
          · obtain ⟨h2a, h2b⟩ := h2
            rcases hf with f1 | ⟨f1, f2⟩
            · exfalso; simp at f1; omega
            · go_wp2_with fail
              go_roundw
              case rel =>
                have hv1 : hv s[k] = some (b.toNat - 87) := by rw [HB.out]; unfold hv; rw [if_neg HF.out, if_pos ⟨h2a, h2b⟩]
                exact ⟨k + 1, y * 16 + (b.toNat - 87), by omega, rfl, or64 y _ (unh_take HY.out hlt HS.out) (by omega) _ (by omega), unh_go HY.out hks hv1⟩
              case measure => simp; omega
          · have hv1 : hv s[k] = none := by rw [HB.out]; unfold hv; rw [if_neg HF.out, if_neg h2]
            have HV := Lib.hid (unhV_none (unh_fail HY.out hks hv1))
            clear hv1
            have hg : decide ((97 : Int) ≤ (b.toNat : Int)) = false ∨ (decide ((97 : Int) ≤ (b.toNat : Int)) = true ∧ decide ((b.toNat : Int) ≤ 102) = false) := by
              by_cases h3 : 97 ≤ b.toNat
              · right; exact ⟨by simp; omega, by simp; omega⟩
              · left; simp; omega
            clear h2
            rcases hf with f1 | ⟨f1, f2⟩ <;> rcases hg with g1 | ⟨g1, g2⟩
            all_goals
              go_wp2_with fail
              go_ret2
              exact ⟨ret_tu (by rw [HV.out]; rfl), below_iter _ _ _⟩
      · have hdec := decode_high s k hks (by rw [hb]; omega)
        have hnx : ∀ ty, (Instr.next (.pointer (some ⟨w.heap.size, 0, none⟩)) true ty).run Try.prog (w.iter s k) = _ := fun ty => run_next_any w s k ty hks
        have hv1 : hv s[k] = none := by
          rw [hb]; unfold hv; rw [if_neg (by omega), if_neg (by omega)]
        have HV := Lib.hid (unhV_none (unh_fail HY.out hks hv1))
        clear hv1 hb
        obtain ⟨hd1, _⟩ := hdec
        generalize (Utf8.decode s k).1 = rr at *
        generalize k + (Utf8.decode s k).2 = kk at *
        have f2 : decide ((rr : Int) ≤ 57) = false := by simp; omega
        have g2 : decide ((rr : Int) ≤ 102) = false := by simp; omega
        go_wp2_with fail
        go_ret2
        exact ⟨ret_tu (by rw [HV.out]; rfl), below_iter _ _ _⟩
    · have hnx : ∀ ty, (Instr.next (.pointer (some ⟨w.heap.size, 0, none⟩)) true ty).run Try.prog (w.iter s k) = _ := fun ty => run_next_end w s k ty (by omega)
      obtain rfl : k = 16 := by omega
      have HV : Hid (unhV s = (y, 0)) := unhV_some HS.out (by rw [← take_all s 16 (by omega)]; exact HY.out)
      go_wp2_with fail
      go_ret2
      exact ⟨ret_tu (by rw [HV.out]), below_iter _ _ _⟩
end Sum
end Go.Proofs.Ytnnakikhfacnpaa
