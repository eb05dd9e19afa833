/- Contracts of the reference's Bit, Bits and high. -/
import Derived.Test.YtfopmaeaclbknaaDoorNatW
import Derived.Deep.QuietTactic
import Derived.BigQuiet
namespace Go.Proofs.YtfopmaeaclbknaaDoor
open Go.ChangeShapes Go.WideShapes Go.ChangeAt Go.RowKit
set_option linter.unusedVariables false
set_option linter.unusedSimpArgs false
namespace Fr
theorem drewN_below (w : World) (n : Nat) : Below w.heap.size w (w.drewN n) := ⟨rfl, rfl, rfl, Nat.le_refl _, fun _ _ => rfl⟩
theorem pow32 {r : Nat} (h : r < 32) : 0 < 2 ^ r ∧ 2 ^ r < B := by
  refine ⟨Nat.pow_pos (by decide), ?_⟩
  exact Nat.lt_of_lt_of_le (Nat.pow_lt_pow_right (by decide) h) (by decide)
theorem shl_one {r p : Nat} (h : r < 32) (hp : p = 2 ^ r) : IntKind.u64.wrap ((2 : Int) ^ r) = ((p : Nat) : Int) := by
  have e : ((2 : Int) ^ r) = ((p : Nat) : Int) := by rw [hp]; simp
  have := pow32 h
  rw [← hp] at this
  unfold B at this
  rw [e, IntWalk.u64_in _ (by omega)]
theorem u64_div {x p y : Nat} (h : x < B * B) (hy : y = x / p) : IntKind.u64.wrap ((x : Int) / (p : Int)) = ((y : Nat) : Int) := by
  have e : (x : Int) / (p : Int) = ((y : Nat) : Int) := by rw [hy]; simp
  have : y ≤ x := by rw [hy]; exact Nat.div_le_self _ _
  rw [BB_eq] at h
  rw [e, IntWalk.u64_in _ (by omega)]
theorem bit_of {N i q r : Nat} (hq : q = i / 32) (hr : r = i % 32) (x : Nat) (hx : x = N / B ^ q % B) : x / 2 ^ r % 2 = N / 2 ^ i % 2 := by
  have hi : i = 32 * q + r := by omega
  have hB : B ^ q = 2 ^ (32 * q) := by rw [Nat.pow_mul]; rfl
  have hr32 : r < 32 := by omega
  have hB2 : B = 2 ^ r * (2 * 2 ^ (31 - r)) := by
    rw [← Nat.pow_succ', ← Nat.pow_add]
    have : r + (31 - r + 1) = 32 := by omega
    rw [this]; rfl
  rw [hx, hi, Nat.pow_add, ← Nat.div_div_eq_div_mul, ← hB]
  generalize N / B ^ q = M
  rw [hB2, Nat.mod_mul_right_div_self, Nat.mod_mul_right_mod]
set_option maxHeartbeats 400000 in
theorem bit_any (a : List Nat) (va : Value) (i : Nat) (w : World) (hla : a.length ≤ 50000) (hi : i ≤ 3000000) (hda : Dg a) (ha : NS w va a) : Calls Tryd.prog 99 #[va, .int .i64 (i : Int)] w fun e w' => e = .returned (.int .u64 ((nat a / 2 ^ i % 2 : Nat) : Int)) ∧ Below w.heap.size w w' := by
  obtain ⟨q, hq⟩ : ∃ q, q = i / 32 := ⟨_, rfl⟩
  obtain ⟨r, hr⟩ : ∃ r, r = i % 32 := ⟨_, rfl⟩
  obtain ⟨p, hp⟩ : ∃ p, p = 2 ^ r := ⟨_, rfl⟩
  obtain ⟨y, hy⟩ : ∃ y, y = dg a q / p := ⟨_, rfl⟩
  obtain ⟨z, hz⟩ : ∃ z, z = y % 2 := ⟨_, rfl⟩
  have HZ : Hid (nat a / 2 ^ i % 2 = z) := by
    show _ = _
    rw [hz, hy, hp]
    exact (bit_of hq hr _ (dg_div hda q)).symm
  have CA := Lib.hid (fun n => digit_any a va q (w.drewN n) (by omega) (by omega) hda (Sl.keep ha (drewN_below w n)))
  have e1 : (i : Int) / 32 = ((q : Nat) : Int) := by omega
  have e2 : (i : Int) % 32 = ((r : Nat) : Int) := by omega
  have e3 := shl_one (show r < 32 by omega) hp
  have hpp := (pow32 (show r < 32 by omega)).1
  rw [← hp] at hpp
  have hp0 : (0 : Int) < (p : Int) := by omega
  have hpn : ((p : Int) == 0) = false := beq_eq_false_iff_ne.2 (by omega)
  have e4 := u64_div (p := p) (Nat.lt_of_lt_of_le (dg_lt hda q) (Nat.le_mul_of_pos_left _ B_pos)) hy
  have e5 : (y : Int) % 2 = ((z : Nat) : Int) := by omega
  have E5 := Lib.hid e5
  have e6 : IntKind.u64.wrap ((z : Nat) : Int) = ((z : Nat) : Int) := IntWalk.u64_in _ (by omega)
  have hx0 : (0 : Int) ≤ ((dg a q : Nat) : Int) := by omega
  have hy0 : (0 : Int) ≤ (y : Int) := by omega
  have hr1 : (r : Int) < 32 := by omega
  have hr0 : (0 : Int) ≤ (r : Int) := by omega
  have hi0 : (0 : Int) ≤ (i : Int) := by omega
  have hi1 : (i : Int) ≤ 3000000 := by omega
  obtain ⟨A1, c1, rfl, _, _, _⟩ := ns_cases ha
  clear ha hda hq hr hp hy hz hpp
  go_enter Tryd.func99, Tryd.ntmps99
  go_wp2_with fail
  go_quiet ((go_at_call 106; refine (CA.out _).mono ?_; rintro e w' ⟨rfl, rfl⟩; exact ⟨rfl, _, rfl⟩))
  go_wp2_with fail
  go_ret
  exact ⟨by rw [HZ.out, ← E5.out]; rfl, drewN_below _ _⟩
end Fr
end Go.Proofs.YtfopmaeaclbknaaDoor
