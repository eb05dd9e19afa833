/- Plain: products by digits. -/
import Derived.Test.YtfopmaeaclbknaaDoorNatV
namespace Go.Proofs.YtfopmaeaclbknaaDoor
open Go.ChangeShapes Go.WideShapes Go.ChangeAt Go.RowKit
set_option linter.unusedVariables false
namespace Fr
theorem mul_lt_BB {x d c : Nat} (hx : x < B) (hd : d < B) (hc : c < B) : x * d + c < B * B := by
  have h1 : x * d ≤ (B - 1) * (B - 1) := Nat.mul_le_mul (by omega) (by omega)
  have h2 : (B - 1) * (B - 1) + (B - 1) < B * B := by decide
  omega
theorem u64_mul {x d : Nat} (h : x * d < B * B) : IntKind.u64.wrap ((x : Int) * (d : Int)) = ((x * d : Nat) : Int) := by
  rw [BB_eq] at h
  have e : (x : Int) * (d : Int) = ((x * d : Nat) : Int) := by simp
  rw [e, IntWalk.u64_in _ (by omega)]
/-- one place of a product with a digit -/
theorem mul_facts {x d c : Nat} (hx : x < B) (hd : d < B) (hc : c < B) : ∃ t s lo hi : Nat, (s = x * d + c ∧ lo = s % B ∧ hi = s / B) ∧ IntKind.u64.wrap ((x : Int) * (d : Int)) = ((t : Nat) : Int) ∧ IntKind.u64.wrap ((t : Int) + (c : Int)) = ((s : Nat) : Int) ∧ IntKind.u32.wrap ((s : Int) % 4294967296) = ((lo : Nat) : Int) ∧ IntKind.u64.wrap ((s : Int) / 4294967296) = ((hi : Nat) : Int) ∧ hi < B ∧ lo < B := by
  have h := mul_lt_BB hx hd hc
  exact ⟨x * d, x * d + c, _, _, ⟨rfl, rfl, rfl⟩, u64_mul (by omega), u64_sum h, parts.2, (part_hi h).2, (part_hi h).1, parts.1⟩
theorem scale_step {o : List Nat} {x d c k s A : Nat} (hk : o.length = k) (h : nat o + c * B ^ k = A * d) (hs : s = x * d + c) : nat (o ++ [s % B]) + s / B * B ^ (k + 1) = (A + x * B ^ k) * d := by
  rw [nat_append, hk]
  simp only [nat, Nat.mul_zero, Nat.add_zero]
  have e : s % B + s / B * B = s := by rw [Nat.mul_comm]; exact Nat.mod_add_div s B
  have e2 : B ^ k * (s % B) + s / B * B ^ (k + 1) = s * B ^ k := by
    rw [Nat.pow_succ, Nat.mul_comm (B ^ k) (s % B), ← Nat.mul_assoc, Nat.mul_right_comm, ← Nat.add_mul, e]
  rw [Nat.add_assoc, e2, hs, Nat.add_mul, Nat.add_mul, Nat.mul_right_comm x (B ^ k) d]
  omega
theorem mul_lt_pow {x y m k : Nat} (hx : x < B ^ m) (hy : y < B ^ k) : x * y < B ^ (m + k) := by
  rw [Nat.pow_add]
  rcases Nat.eq_zero_or_pos y with rfl | h
  · rw [Nat.mul_zero]
    exact Nat.mul_pos (Nat.pow_pos B_pos) (Nat.pow_pos B_pos)
  · exact Nat.lt_of_lt_of_le (Nat.mul_lt_mul_of_pos_right hx h) (Nat.mul_le_mul_left _ (by omega))
theorem scale_end {a o : List Nat} {c d M : Nat} (ha : Dg a) (hd : d < B) (h1 : a.length = M) (h : nat o + c * B ^ (M + 1) = val a (M + 1) * d) : nat o = nat a * d := by
  rw [val_nat (by omega)] at h
  have e1 := nat_lt_len ha (Nat.le_of_eq h1)
  have e2 : nat a * d < B ^ (M + 1) := mul_lt_pow e1 (k := 1) (by rw [Nat.pow_one]; exact hd)
  cases c with
  | zero => omega
  | succ c =>
    rw [Nat.succ_mul] at h
    omega
theorem digs_mul_len {x y m k : Nat} (hx : x < B ^ m) (hy : y < B ^ k) : (digs (x * y)).length ≤ m + k := digs_len_le (mul_lt_pow hx hy)
end Fr
end Go.Proofs.YtfopmaeaclbknaaDoor
