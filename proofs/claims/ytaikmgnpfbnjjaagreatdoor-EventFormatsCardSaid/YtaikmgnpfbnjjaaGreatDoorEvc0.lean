/- Contracts of the reference's Uint, Text, number, names, Name, Has; of the reference's check of a bundle. Printed by gen_evc0.py. -/
import Derived.Test.YtaikmgnpfbnjjaaGreatDoorPw02
import Derived.Test.YtaikmgnpfbnjjaaGreatDoorPw00
import Derived.Test.YtaikmgnpfbnjjaaGreatDoorPv05
import Derived.Deep.RegionWith
namespace Go.Proofs.YtaikmgnpfbnjjaaGreatDoor.Ev
open Go.ChangeShapes Go.WideShapes Go.ChangeAt Go.RowKit Gn Cat Lex Ros Se
set_option linter.unusedVariables false
set_option linter.unusedSimpArgs false
def valE (p : Nat → Int) : Int := if validB p = true then 0 else 4
theorem valE_bad {p : Nat → Int} {k : Nat} (hk : k < 6) (h : ¬ (0 ≤ p k ∧ p k ≤ 4)) : valE p = 4 := if_neg (fun hv => h (validB_iff.1 hv k hk))
theorem valE_ok {p : Nat → Int} (h : ∀ k, k < 6 → 0 ≤ p k ∧ p k ≤ 4) : valE p = 0 := if_pos (validB_iff.2 h)
set_option maxHeartbeats 1000000 in
theorem r7check_any (p : Nat → Int) (w : World) : Calls Tryz.prog 28 #[.agg (arr p)] w fun e w' => e = .returned (.int .i64 (valE p)) ∧ Below w.heap.size w w' := by
  have K0 := Lib.hid (box_new w p 23)
  have B0 := Lib.hid (below_new w (.cells (arr p) 23))
  have HB := Lib.hid (fun k (hk : k < 6) (h : ¬ (0 ≤ p k ∧ p k ≤ 4)) => valE_bad hk h)
  have HO := Lib.hid (fun h => valE_ok (p := p) h)
  unfold arr at K0 B0
  unfold arr
  go_enter Tryz.func28, Tryz.ntmps28
  go_wp2_with fail
  obtain ⟨w0, hw0⟩ : ∃ W, W = w.alloc (.cells #[.int .i64 (p 0), .int .i64 (p 1), .int .i64 (p 2), .int .i64 (p 3), .int .i64 (p 4), .int .i64 (p 5)] 23) := ⟨_, rfl⟩
  rw [← hw0] at K0 B0 ⊢
  clear hw0
  go_loopw [3] (fun i wr => ∃ k : Nat, k ≤ 6 ∧ i = .int .i64 (k : Int) ∧ Hid (∀ j, j < k → 0 ≤ p j ∧ p j ≤ 4) ∧ w0 = wr) (fun i _ => 6 - (intOf i).toNat)
  case atStart => exact ⟨0, by omega, rfl, fun j h => absurd h (by omega), rfl⟩
  case round =>
    obtain ⟨k, hk, rfl, HP, rfl⟩ := hrel
    by_cases hlt : k < 6
    · have hd : decide ((k : Int) < 6) = true := decide_eq_true (by omega)
      have hi0 : (0 : Int) ≤ (k : Int) := by omega
      have hk6 : (k : Int) < 6 := by omega
      have hbk := K0.out.cell k hlt
      have gz := K0.out.lt
      have HPB := Lib.hid (HB.out k hlt)
      have HPK : Hid (0 ≤ p k ∧ p k ≤ 4 → ∀ j, j < k + 1 → 0 ≤ p j ∧ p j ≤ 4) := fun h j hj => by
        by_cases e : j = k
        · rw [e]; exact h
        · exact HP.out j (by omega)
      generalize p k = pk at *
      by_cases h0 : pk < 0
      · have d0 : decide (pk < 0) = true := decide_eq_true h0
        have HV := Lib.hid (HPB.out (by omega))
        go_wp2_with fail
        go_ret
        exact ⟨by rw [HV.out]; rfl, B0.out⟩
      · have d0 : decide (pk < 0) = false := decide_eq_false h0
        by_cases h4 : 4 < pk
        · have d4 : decide (4 < pk) = true := decide_eq_true h4
          have HV := Lib.hid (HPB.out (by omega))
          go_wp2_with fail
          go_ret
          exact ⟨by rw [HV.out]; rfl, B0.out⟩
        · have d4 : decide (4 < pk) = false := decide_eq_false h4
          have HP2 := Lib.hid (HPK.out (by omega))
          go_wp2_with fail
          go_roundw
          case rel => exact ⟨k + 1, by omega, by go_num, HP2.out, by first | rfl | trivial⟩
          case measure => simp [intOf]; omega
    · obtain rfl : k = 6 := by omega
      have hd : decide (((6 : Nat) : Int) < 6) = false := by decide
      have HV := Lib.hid (HO.out HP.out)
      go_wp2_with fail
      go_ret
      exact ⟨by rw [HV.out]; rfl, B0.out⟩
theorem conv_keep {w w' : World} {b : Int} {c : UInt8} (h : b = (c.toNat : Int)) (d : Below (w.alloc (.cells #[.int .u8 b] 5)).heap.size (w.alloc (.cells #[.int .u8 b] 5)) w') : (convert 106 9 (.slice (some ⟨w.heap.size, 0, none⟩) 1 1)).run Tryz.prog w' = .ok (.string ⟨#[c]⟩) w' := by
  subst h
  refine back_cells _ _ 1 1 [c] rfl fun j u hu => ?_
  rw [OpenAdd.add_at, Nat.zero_add, ((Blk.new w 5 _).below' d).cell]
  simpa [u8s] using hu
theorem conv_keep2 {w w' : World} {b : Int} {c : UInt8} (h : b = (c.toNat : Int)) (d : Below ((w.alloc (.cells #[.int .u8 b] 5)).drew).heap.size ((w.alloc (.cells #[.int .u8 b] 5)).drew) w') : (convert 106 9 (.slice (some ⟨w.heap.size, 0, none⟩) 1 1)).run Tryz.prog w' = .ok (.string ⟨#[c]⟩) w' :=
  conv_keep h (chain0 ((Below.refl _ _).drew) d)
theorem uint_step {x : Nat} (h : ¬ x < 128) (hx : x < 18446744073709551616) : uintB x = ⟨#[UInt8.ofNat (128 + x % 128)]⟩ ++ uintB (x / 128) := by
  unfold uintB
  rw [uintL_big h hx]
  apply ByteArray.ext
  apply Array.toList_inj.1
  simp
theorem ruintQ {y : Nat} (h : ∀ w : World, Calls Tryz.prog 70 #[.int .u64 (y : Int)] w (StrPost (uintB y) w)) (W : World) (q : Int) (hq : q = (y : Int)) : Calls Tryz.prog 70 #[.int .u64 q] W (StrPost (uintB y) W) := by
  rw [hq]
  exact h W
set_option maxHeartbeats 2000000 in
set_option maxRecDepth 100000 in
theorem ruintS_any : ∀ (n x : Nat), x < n → x < 18446744073709551616 → ∀ w : World, Calls Tryz.prog 70 #[.int .u64 (x : Int)] w (StrPost (uintB x) w)
  | 0, x, h, _, _ => absurd h (Nat.not_lt_zero x)
  | n + 1, x, hn, hx, w => by
    by_cases h : x < 128
    · have hv : uintB x = ⟨#[UInt8.ofNat x]⟩ := by unfold uintB; rw [uintL_small h]
      rw [hv]
      have hd : decide ((x : Int) < 128) = true := decide_eq_true (by omega)
      have HB := ruint_one (x : Int) (UInt8.ofNat x) w (uint_one x h)
      generalize UInt8.ofNat x = c at *
      go_enter Tryz.func70, Tryz.ntmps70
      go_wp2_with fail
      go_ret
      exact ⟨rfl, below_new _ _⟩
    · have IH := Lib.hid (fun W (q : Int) (hq : q = ((x / 128 : Nat) : Int)) => ruintQ (ruintS_any n (x / 128) (by omega) (by omega)) W q hq)
      have hd : decide ((x : Int) < 128) = false := decide_eq_false (by omega)
      rw [uint_step h hx]
      have hc : IntKind.u8.wrap (IntKind.u64.wrap ((x : Int).tmod 128 + 128)) = ((UInt8.ofNat (128 + x % 128)).toNat : Int) := by
        rw [Int.tmod_eq_emod_of_nonneg (by omega), IntWalk.u64_in _ (by omega), IntWalk.u8_in _ (by omega)]
        show _ = (((128 + x % 128) % 256 : Nat) : Int)
        omega
      have HC := Lib.hid hc
      have HQ : Hid (IntKind.u64.wrap ((x : Int) / 128) = ((x / 128 : Nat) : Int)) := by
        show _ = _
        rw [IntWalk.u64_in _ (by omega)]
        omega
      have HA := fun W => add_s ⟨#[UInt8.ofNat (128 + x % 128)]⟩ (uintB (x / 128)) (by have := uintB_size (x / 128); show 1 + _ ≤ _; omega) W
      have HB := fun W => ruint_one (IntKind.u8.wrap (IntKind.u64.wrap ((x : Int).tmod 128 + 128))) (UInt8.ofNat (128 + x % 128)) W hc
      have HB2 := fun W => conv_keep (w := W) hc ((Below.refl _ _).drew)
      have HXX := Lib.hid hx
      have HX1 := Lib.hid h
      clear hx h hc hn
      generalize uintB (x / 128) = r2 at *
      generalize UInt8.ofNat (128 + x % 128) = c at *
      go_enter Tryz.func70, Tryz.ntmps70
      go_wp2_with fail
      go_region_with (first | (go_at_call 70; refine (IH.out _ _ HQ.out).mono ?_; rintro e w' ⟨rfl, d⟩; try have cv := conv_keep2 HC.out d; try have cv := conv_keep HC.out d))
      all_goals
        go_wp2_with fail
        go_ret
        first | exact ⟨rfl, chain0 ((below_new w _).drew) d⟩ | exact ⟨rfl, (chain0 ((Below.refl _ _).drew) d).alloc (chain0 ((Below.refl _ _).drew) d).size _⟩
theorem ruintn_any (x : Nat) (w : World) (hx : x < 18446744073709551616) : Calls Tryz.prog 70 #[.int .u64 (x : Int)] w (StrPost (uintB x) w) := ruintS_any (x + 1) x (Nat.lt_succ_self x) hx w
theorem rnum_any (x : Int) (h : 0 ≤ x ∧ x < 1000) (w : World) : Calls Tryz.prog 68 #[.int .i64 x] w (StrPost (uintB x.toNat) w) := by
  have CU := Lib.hid (fun W => ruintn_any x.toNat W (by omega))
  rw [show ((x.toNat : Nat) : Int) = x by omega] at CU
  have HW := Lib.hid (u64_pos x h)
  generalize uintB x.toNat = r at *
  have hx0 := h.1
  go_enter Tryz.func68, Tryz.ntmps68
  go_wp2_with fail
  try rw [HW.out]
  refine (CU.out _).mono ?_
  rintro e w1 ⟨rfl, b1⟩
  go_wp2_with fail
  go_ret
  exact ⟨rfl, b1⟩
theorem rwtext_any (s : ByteArray) (w : World) (hs : s.size ≤ 5000) : Calls Tryz.prog 69 #[.string s] w (StrPost (textB s) w) := by
  have CU := Lib.hid (fun W => ruintn_any s.size W (by omega))
  have HA := fun W => add_s (uintB s.size) s (by have := uintB_size s.size; omega) W
  rw [← text_cat]
  go_enter Tryz.func69, Tryz.ntmps69
  go_wp2_with fail
  refine (CU.out _).mono ?_
  rintro e w1 ⟨rfl, b1⟩
  go_wp2_with fail
  go_ret
  exact ⟨rfl, b1⟩
theorem rnames_any (w : World) : Calls Tryz.prog 30 #[] w fun e w' => e = .returned (.slice (some ⟨w.heap.size, 0, none⟩) 11 11) ∧ w' = w.alloc (.cells #[.string ⟨#[]⟩, .string ⟨#[115, 97, 108, 101]⟩, .string ⟨#[100, 101, 109, 97, 110, 100]⟩, .string ⟨#[114, 111, 117, 110, 100]⟩, .string ⟨#[115, 116, 111, 112]⟩, .string ⟨#[98, 105, 100]⟩, .string ⟨#[119, 105, 116, 104, 100, 114, 97, 119]⟩, .string ⟨#[100, 105, 115, 113, 117, 97, 108, 105, 102, 121]⟩, .string ⟨#[114, 101, 114, 117, 110]⟩, .string ⟨#[99, 108, 111, 115, 101]⟩, .string ⟨#[100, 101, 99, 105, 100, 101]⟩] 9) := by
  go_enter Tryz.func30, Tryz.ntmps30
  go_wp2_with fail
  go_ret
  exact ⟨rfl, rfl⟩
theorem names_at (w : World) : (∀ k : Nat, (w.alloc (.cells #[.string ⟨#[]⟩, .string ⟨#[115, 97, 108, 101]⟩, .string ⟨#[100, 101, 109, 97, 110, 100]⟩, .string ⟨#[114, 111, 117, 110, 100]⟩, .string ⟨#[115, 116, 111, 112]⟩, .string ⟨#[98, 105, 100]⟩, .string ⟨#[119, 105, 116, 104, 100, 114, 97, 119]⟩, .string ⟨#[100, 105, 115, 113, 117, 97, 108, 105, 102, 121]⟩, .string ⟨#[114, 101, 114, 117, 110]⟩, .string ⟨#[99, 108, 111, 115, 101]⟩, .string ⟨#[100, 101, 99, 105, 100, 101]⟩] 9)).cell? ⟨w.heap.size, k, none⟩ = (#[.string ⟨#[]⟩, .string ⟨#[115, 97, 108, 101]⟩, .string ⟨#[100, 101, 109, 97, 110, 100]⟩, .string ⟨#[114, 111, 117, 110, 100]⟩, .string ⟨#[115, 116, 111, 112]⟩, .string ⟨#[98, 105, 100]⟩, .string ⟨#[119, 105, 116, 104, 100, 114, 97, 119]⟩, .string ⟨#[100, 105, 115, 113, 117, 97, 108, 105, 102, 121]⟩, .string ⟨#[114, 101, 114, 117, 110]⟩, .string ⟨#[99, 108, 111, 115, 101]⟩, .string ⟨#[100, 101, 99, 105, 100, 101]⟩] : Array Value)[k]?) := fun k => (Blk.new w 9 _).cell k
set_option maxHeartbeats 2000000 in
theorem rname_any (k : Int) (w : World) : Calls Tryz.prog 12 #[.int .i64 k] w (StrPost (nameK k) w) := by
  have CN := Lib.hid rnames_any
  by_cases h1 : k < 1
  · have HV : Hid (nameK k = ⟨#[]⟩) := by
      show nameK k = _
      unfold nameK
      rw [if_neg (by omega), if_neg (by omega), if_neg (by omega), if_neg (by omega), if_neg (by omega), if_neg (by omega), if_neg (by omega), if_neg (by omega), if_neg (by omega), if_neg (by omega)]
    have hd : decide (k < 1) = true := decide_eq_true h1
    clear h1
    go_enter Tryz.func12, Tryz.ntmps12
    go_wp2_with fail
    go_ret
    exact ⟨by rw [HV.out]; rfl, Below.refl _ _⟩
  · have hd : decide (k < 1) = false := decide_eq_false h1
    by_cases h2 : 10 < k
    · have HV : Hid (nameK k = ⟨#[]⟩) := by
        show nameK k = _
        unfold nameK
        rw [if_neg (by omega), if_neg (by omega), if_neg (by omega), if_neg (by omega), if_neg (by omega), if_neg (by omega), if_neg (by omega), if_neg (by omega), if_neg (by omega), if_neg (by omega)]
      have hd2 : decide (10 < k) = true := decide_eq_true h2
      clear h1 h2
      go_enter Tryz.func12, Tryz.ntmps12
      go_wp2_with fail
      go_ret
      exact ⟨by rw [HV.out]; rfl, Below.refl _ _⟩
    · have hk : k = 1 ∨ k = 2 ∨ k = 3 ∨ k = 4 ∨ k = 5 ∨ k = 6 ∨ k = 7 ∨ k = 8 ∨ k = 9 ∨ k = 10 := by omega
      clear h1 h2 hd
      rcases hk with rfl | rfl | rfl | rfl | rfl | rfl | rfl | rfl | rfl | rfl
      all_goals
        go_enter Tryz.func12, Tryz.ntmps12
        go_wp2_with fail
        refine (CN.out _).mono ?_
        rintro e w1 ⟨rfl, rfl⟩
        go_wp2_with fail
        go_ret
        exact ⟨rfl, below_new _ _⟩
def hasBb (k : Int) : Bool := k == 2 || (k == 5 || (k == 6 || k == 7))
theorem rhas_any (k : Int) (w : World) : Calls Tryz.prog 41 #[.int .i64 k] w fun e w' => e = .returned (.bool (hasBb k)) ∧ w' = w := by
  have HV : Hid (hasBb k = (k == 2 || (k == 5 || (k == 6 || k == 7)))) := rfl
  generalize hasBb k = v at *
  cases h2 : (k == 2)
  case true =>
    go_enter Tryz.func41, Tryz.ntmps41
    go_wp2_with fail
    go_ret
    exact ⟨by rw [HV.out, h2]; rfl, rfl⟩
  cases h5 : (k == 5)
  case true =>
    go_enter Tryz.func41, Tryz.ntmps41
    go_wp2_with fail
    go_ret
    exact ⟨by rw [HV.out, h2, h5]; rfl, rfl⟩
  cases h6 : (k == 6)
  case true =>
    go_enter Tryz.func41, Tryz.ntmps41
    go_wp2_with fail
    go_ret
    exact ⟨by rw [HV.out, h2, h5, h6]; rfl, rfl⟩
  cases h7 : (k == 7)
  all_goals
    go_enter Tryz.func41, Tryz.ntmps41
    go_wp2_with fail
    go_ret
    exact ⟨by rw [HV.out, h2, h5, h6, h7]; rfl, rfl⟩
end Go.Proofs.YtaikmgnpfbnjjaaGreatDoor.Ev
