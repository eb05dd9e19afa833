/- Plain: digits put together by bits. -/
import Derived.Test.YtfopmaeaclbknaaDoorNatM
import Derived.Laws.BitsAllLaws
namespace Go.Proofs.YtfopmaeaclbknaaDoor
open Go.RowKit
set_option linter.unusedVariables false
namespace Fr
/-- two digits put together -/
theorem or_hi {x y : Nat} (hx : x < B) (hy : y < B) : bits BinOp.or IntKind.u64 (IntKind.u64.wrap ((y : Int) * 4294967296)) (x : Int) = ((x + B * y : Nat) : Int) := by
  have hb : B = 2 ^ 32 := rfl
  unfold B at hx hy
  rw [IntWalk.u64_in _ (by omega)]
  have e : (y : Int) * 4294967296 = ((y * 2 ^ 32 : Nat) : Int) := by omega
  rw [e, u64_or_nat _ _ (by omega) (by omega), nat_join 32 _ _ (by omega) (by omega), hb, Nat.add_comm, Nat.mul_comm]
theorem wrap_hi {x : Nat} (hx : x < B) : IntKind.u64.wrap ((x : Int) * 4294967296) = ((B * x : Nat) : Int) := by
  unfold B at *
  rw [IntWalk.u64_in _ (by omega)]
  omega
theorem or_hi' {x y : Nat} (hx : x < B) (hy : y < B) : bits BinOp.or IntKind.u64 ((B * y : Nat) : Int) (x : Int) = ((x + B * y : Nat) : Int) := by
  rw [← wrap_hi hy, or_hi hx hy]
/-- one place of a number shifted left by fewer than 32 bits -/
theorem shift_facts {x c s : Nat} (hx : x < B) (hs : s < 32) (hc : c < 2 ^ s) : ∃ t lo hi z : Nat, (z + hi * B = x * 2 ^ s + c) ∧ IntKind.u64.wrap ((x : Int) * 2 ^ s) = ((t : Nat) : Int) ∧ (t : Int) % 4294967296 = ((lo : Nat) : Int) ∧ bits BinOp.or IntKind.u32 (c : Int) (lo : Int) = ((z : Nat) : Int) ∧ (t : Int) / 4294967296 % 4294967296 = ((hi : Nat) : Int) ∧ (t : Int) / 4294967296 = ((hi : Nat) : Int) ∧ (hi : Int) % 4294967296 = ((hi : Nat) : Int) ∧ hi < 2 ^ s ∧ z < B := by
  have hb : B = 2 ^ (32 - s) * 2 ^ s := by rw [← Nat.pow_add, show 32 - s + s = 32 by omega]; rfl
  have h2 : 2 ^ s < B := by
    have : 2 ^ s ≤ 2 ^ 31 := Nat.pow_le_pow_right (by decide) (by omega)
    unfold B
    omega
  have ht : x * 2 ^ s < B * B := by
    have h3 : x * 2 ^ s ≤ x * B := Nat.mul_le_mul_left _ (by omega)
    have h4 : x * B < B * B := Nat.mul_lt_mul_of_pos_right hx B_pos
    omega
  have h1 : x * 2 ^ s / B < 2 ^ s := Nat.div_lt_of_lt_mul (Nat.mul_lt_mul_of_pos_right hx (Nat.two_pow_pos s))
  have hlo : x * 2 ^ s % B = x % 2 ^ (32 - s) * 2 ^ s := by rw [hb, Nat.mul_mod_mul_right]
  have hm : x * 2 ^ s % B % 2 ^ s = 0 := by rw [hlo]; exact Nat.mul_mod_left _ _
  have hz : x * 2 ^ s % B + c < B := by
    have h5 : x % 2 ^ (32 - s) < 2 ^ (32 - s) := Nat.mod_lt _ (Nat.two_pow_pos _)
    have h6 : (x % 2 ^ (32 - s) + 1) * 2 ^ s ≤ 2 ^ (32 - s) * 2 ^ s := Nat.mul_le_mul_right _ h5
    rw [hlo]
    rw [Nat.succ_mul, ← hb] at h6
    omega
  have hd := Nat.mod_add_div (x * 2 ^ s) B
  have hl : x * 2 ^ s % B < B := Nat.mod_lt _ B_pos
  have e0 : (x : Int) * 2 ^ s = ((x * 2 ^ s : Nat) : Int) := by simp
  generalize hT : x * 2 ^ s = t at *
  clear hlo hb
  refine ⟨t, t % B, t / B, t % B + c, ?_, ?_, ?_, ?_, ?_, ?_, ?_, h1, hz⟩
  · rw [Nat.mul_comm]; omega
  · rw [e0]
    rw [BB_eq] at ht
    exact IntWalk.u64_in _ (by omega)
  · unfold B; omega
  · have hcB : c < B := by omega
    rw [u32_or_nat _ _ (by unfold B at hcB; omega) (by unfold B at hl ⊢; omega), Nat.or_comm, nat_join s _ _ hm hc]
  · generalize 2 ^ s = p at *
    unfold B at *
    omega
  · unfold B; omega
  · generalize 2 ^ s = p at *
    unfold B at *
    omega
end Fr
end Go.Proofs.YtfopmaeaclbknaaDoor
